import Derived.Test.YtpmimbgkiindbaaGreatAPFnAllDone2
set_option maxRecDepth 100000
set_option linter.unusedVariables false
set_option linter.unusedSimpArgs false
set_option linter.unusedSectionVars false
open Go.IntKind (wrap)
namespace Go.G
open Go Go.V Go.Proofs
def dJ(got:dL)(p:Int):Int:=(eX got p).1
def g7(got:dL):List Int:=got.map (·.1)
def qO(got:dL)(o:cL):Prop:=∃B,path (dJ got) (prog o)=g7 got++B
def sA(got:dL):Prop:=∀g∈got,0<=g.2.1/\g.2.1<=6
theorem Oi(q:Int):∀(a b:dL)(v:Int)(ok:Bool),rd q (a++b) v ok=rd q b (rd q a v ok).1 (rd q a v ok).2
 | [],b,v,ok=>rfl
 | (p,x,_)::a,b,v,ok=>by
  simp only[fH,rd];split<;>exact Oi q a b _ _
theorem Q9(got:dL)(p v q:Int):eX (got++[(p,v,())]) q=if p=q then (v,true) else eX got q:=by unfold eX;rw[Oi];simp only[rd]
theorem BL(q:Int):∀(a:dL)(v:Int)(ok:Bool),q∉g7 a->rd q a v ok=(v,ok)
 | [],v,ok,_=>rfl
 | (p,x,_)::a,v,ok,h=>by
  simp only[g7,cA,bk,n9]at h;simp only[rd];rw[af (fun e=>h.1 e.symm)];exact BL q a v ok h.2
theorem qN(q:Int):∀(a:dL)(v:Int)(ok:Bool),q∈g7 a->(rd q a v ok).2=true/\∃g∈a,g.1=q/\(rd q a v ok).1=g.2.1
 | [],v,ok,h=>by simp[g7]at h
 | (p,x,u)::a,v,ok,h=>by
  simp only[rd];by_cases hq:q∈g7 a
  .obtain⟨h1,g,hg,h2⟩:=qN q a (if p=q then x else v) (if p=q then true else ok) hq;have e:(if p=q then rd q a x true else rd q a v ok)=rd q a (if p=q then x else v) (if p=q then true else ok):=by split<;>rfl
   rw[e];exact⟨h1,g,cG _ hg,h2⟩
  .have hp:q=p:=by simp only[g7,cA,bk]at h;exact h.resolve_right hq
   rw[ak hp.symm,BL q a x true hq];exact⟨rfl,(p,x,u),e8,hp.symm,rfl⟩
theorem GV(got:dL):AH got (dJ got) (g7 got):=by
 intro q;by_cases h:q∈g7 got
 .rw[ak h];exact Prod.ext rfl (qN q got 0 false h).1
 .rw[af h];exact BL q got 0 false h
theorem NC:∀{got:dL},(g7 got).Nodup->∀{g g':Int×Int×Unit},g∈got->g'∈got->g'.1=g.1->g=g'
 | [],_,g,g',hg,_,_=>by simp at hg
 | a::l,h,g,g',hg,hg',h1=>by
  rw[g7,cA,IW]at h;rcases bk.1 hg with rfl | hg2
  .rcases bk.1 hg' with rfl | XG
   .rfl
   .exact absurd (eI.2 ⟨g',XG,h1⟩) h.1
  .rcases bk.1 hg' with rfl | XG
   .exact absurd (eI.2 ⟨g,hg2,h1.symm⟩) h.1
   .exact NC h.2 hg2 XG h1
theorem M7{got:dL}(h:(g7 got).Nodup){g:Int×Int×Unit}(hg:g∈got):dJ got g.1=g.2.1:=by have hm:g.1∈g7 got:=eI.2 ⟨g,hg,rfl⟩;obtain⟨_,g',hg',h1,h2⟩:=qN g.1 got 0 false hm;have e:=NC h hg hg' h1;have e2:dJ got g.1=g'.2.1:=h2;rw[e2,e]
theorem MI{got:dL}(hg:sA got)(p:Int):0<=dJ got p/\dJ got p<=6:=by
 by_cases h:p∈g7 got
 .obtain⟨_,g,hm,_,e⟩:=qN p got 0 false h;have:=hg g hm;unfold dJ eX;rw[e];exact this
 .have:=BL p got 0 false h;unfold dJ eX;rw[this];dsimp only;omega
theorem GM{w w':Int->Int}:∀(A:List Int)(P:PR)(B:List Int),path w P=A++B->(∀a∈A,w' a=w a)->∃B',path w' P=A++B'/\B'.head? = B.head?
 | [],.done,B,h,_=>⟨[],rfl,by simp only[path,gA]at h;rw[<-h]⟩
 | [],.ask p k,B,h,_=>⟨p::path w' (k (w' p)),rfl,by simp only[path,gA]at h;rw[<-h];rfl⟩
 | a::A,.done,B,h,_=>by simp[path]at h
 | a::A,.ask p k,B,h,hw=>by
  simp only[path,fH,eZ]at h;obtain⟨rfl,h⟩:=h;obtain⟨B',h1,h2⟩:=GM A (k (w p)) B h fun b hb=>hw b (cG _ hb);exact⟨B',by simp only[path,fH];rw[hw p e8,h1],h2⟩
section
variable {o:cL} (ho:dh o=true) {got:dL} (hg:sA got)
include ho hg
theorem KG(h:qO got o):(g7 got).Nodup/\(∀p∈g7 got,0<=p/\p<20)/\got.length<=8:=by obtain⟨B,hB⟩:=h;have hp:=J_ ho (dJ got) (fun k _=>MI hg k);rw[hB]at hp;refine⟨(IQ.1 hp.once).1,fun p h=>hp.dQ p (AL _ h),?_⟩;have:=hp.len;rw[cV,g7,jD]at this;omega
theorem KI(h:qO got o):(run got (prog o)).1=g7 got/\
  ((path (dJ got) (prog o)=g7 got/\(run got (prog o)).2 = -1)\/∃q B,path (dJ got) (prog o)=g7 got++q::B/\(run got (prog o)).2=q/\(0<=q/\q<20)/\q∉g7 got/\got.length<8):=by
 obtain⟨B,hB⟩:=h;have hp:=J_ ho (dJ got) (fun k _=>MI hg k);rw[hB]at hp;have hn:=IQ.1 hp.once;have hr:=HC (GV got) (g7 got) B (prog o) hB (fun a h=>h) (fun a h=>(hp.dQ a h).1) (fun b B' e hb=>hn.2.2 b hb b (by rw[e];exact e8) rfl);rw[hr];refine⟨rfl,?_⟩;cases B with
 | nil=>exact .inl ⟨by rw[hB,gU],rfl⟩
 | cons q B=>refine .inr ⟨q,B,hB,rfl,hp.dQ q (by simp),fun h=>hn.2.2 q h q e8 rfl,?_⟩;have:=hp.len;rw[cV,g7,jD,cw]at this;omega
theorem aa6(h:qO got o){q:Int}{B:List Int}(hq:path (dJ got) (prog o)=g7 got++q::B)(hn:q∉g7 got)(v:Int):qO (got++[(q,v,())]) o:=by
 have hw:∀a∈g7 got,dJ (got++[(q,v,())]) a=dJ got a:=by intro a ha;unfold dJ;rw[Q9,af (fun e:q=a=>hn (by rw[e];exact ha))]
 obtain⟨B',h1,h2⟩:=GM (g7 got) (prog o) (q::B) hq hw;cases B' with
 | nil=>simp at h2
 | cons b B'=>simp only[List.head?_cons,aK]at h2;subst h2;exact⟨B',by rw[h1];simp[g7]⟩
end
theorem Rz(o:cL):qO [] o:=⟨path (dJ []) (prog o),rfl⟩
theorem abU{o:cL}{got:dL}{r:qp}(hn:(g7 got).Nodup)(hp:path (dJ got) (prog o)=g7 got)(h:∀g∈got,g.2.1=cg r g.1):got=fy r o:=by
 have hw:∀a∈g7 got,cg r a=dJ got a:=by intro a ha;obtain⟨g,hg,rfl⟩:=eI.1 ha;rw[M7 hn hg,h g hg]
 obtain⟨B',h1,h2⟩:=GM (w':=cg r) (g7 got) (prog o) [] (by rw[hp,gU]) hw;have hB:B'=[]:=by cases B' with | nil=>rfl | cons b B'=>simp at h2
 rw[hB,gU]at h1;unfold fy;rw[h1,g7,B3];have:got.map ((fun p=>(p,cg r p,())) ∘ fun(x:Int×Int×Unit)=>x.1)=got.map id:=by apply rK;intro g hg;show(g.1,cg r g.1,())=g;rw[<-h g hg]
 rw[this,List.map_id]
theorem M0:∀(a b:List Int),a.Nodup->(∀x∈a,x∈b)->b.length<=a.length->∀x∈b,x∈a
 | [],b,_,_,hl,x,hx=>by
  have:b=[]:=lE.1 (by simpa using hl);rw[this]at hx;exact hx
 | a::l,b,hn,hs,hl,x,hx=>by
  rw[IW]at hn;have hab:=hs a e8;have hlen:=List.length_erase_of_mem hab;have hpos:0<b.length:=List.length_pos_of_mem hab;have:=M0 l (b.erase a) hn.2 (fun y hy=>(List.mem_erase_of_ne (fun e=>hn.1 (by rw[<-e];exact hy))).2 (hs y (cG _ hy))) (by simp only[cw]at hl;omega);by_cases h:x=a
  .rw[h];exact e8
  .exact cG _ (this x ((List.mem_erase_of_ne h).2 hx))
section
variable {o:cL} (ho:dh o=true) {got:dL} (hg:sA got) (nP:qO got o) (hp:path (dJ got) (prog o)=g7 got) (dz:mM o got=none)
include ho hg nP hp dz
theorem Nw:lO (dI o got):=by
 have hpk:=J_ ho (dJ got) (fun k _=>MI hg k);have hk:AH got (dJ got) (path (dJ got) (prog o)):=by rw[hp];exact GV got
 have hrun:(run got (prog o)).2 = -1:=by
  rcases(KI ho hg nP).2 with h | ⟨q,B,h,_⟩
  .exact h.2
  .rw[hp]at h;have:=eg List.length h;simp at this
 have JM:∀p∈path (dJ got) (prog o),val got p=dJ got p:=fun p hp=>rfl;unfold dI;by_cases eK:o.1=1\/o.1=2\/o.1=3
 .rw[ak eK];obtain⟨_,r2,_,_⟩:=MF (got:=got) (K:=o.2.1) (V:=o.2.2.1) (held:=val got (qw o.2.1)) (st:=val got 13) (xV ho dz eK);exact r2
 rw[af eK];by_cases k7:o.1=7
 .rw[ak k7];simp[lO,same]
 rw[af k7];by_cases k8:o.1=8
 .rw[ak k8];simp[lO]
 rw[af k8];by_cases k9:o.1=9
 .rw[ak k9];have h1:=vr (wrap .i64 (val got 13-1));generalize qw (wrap .i64 (val got 13-1))=q at *;have h2:=oR (val got q);cases hin:bw (val got q) 1 6
  .simp[lO,same,cond];omega
  .have:=lq.1 hin;simp only[bA,lO,same,me,bk,dc,di,uE,uD,List.Pairwise.nil,iQ,false_imp_iff,u5];omega
 rw[af k9];by_cases jq:o.1=10
 .rw[ak jq];have um:=tP ho;have h2:=oR o.2.2.1;simp only[lO,same,me,bk,dc,di,uE,uD,List.Pairwise.nil,iQ,false_imp_iff,u5];omega
 rw[af jq];exact List.Pairwise.nil
theorem Bo:(∀g∈got,∃e∈dI o got,e.1=g.1/\e.2.1=g.2.1)/\(∀e∈dI o got,∃g∈got,g.1=e.1/\g.2.1=e.2.1)/\(dI o got).length=got.length:=by
 have hk:AH got (dJ got) (path (dJ got) (prog o)):=by rw[hp];exact GV got
 have hn:=(KG ho hg nP).1;have hrun:run got (prog o)=(path (dJ got) (prog o),-1):=by
  obtain⟨h1,h2⟩:=KI ho hg nP;rcases h2 with h | ⟨q,B,h,_⟩
  .exact Prod.ext (by rw[h1,hp]) h.2
  .rw[hp]at h;have:=eg List.length h;simp at this
 obtain⟨hA,hB⟩:=Nv ho (fun k _=>MI hg k) hk hrun dz;rw[hp]at hA hB;have hlen:(dI o got).length=got.length:=by rw[hB,g7,jD]
 have oT:=Nw ho hg nP hp dz;have h1:∀g∈got,∃e∈dI o got,e.1=g.1/\e.2.1=g.2.1:=by intro g zB;obtain⟨e,he,a,b⟩:=hA g.1 (eI.2 ⟨g,zB,rfl⟩);exact⟨e,he,a,by rw[b,M7 hn zB]⟩
 refine⟨h1,?_,hlen⟩;intro e he;have hm:e.1∈g7 got:=by refine M0 (g7 got) ((dI o got).map (·.1)) hn (fun x hx=>?_) (by rw[jD,hlen,g7,jD];exact ct _) e.1 (eI.2 ⟨e,he,rfl⟩);obtain⟨g,zB,rfl⟩:=eI.1 hx;obtain⟨e',he',a,_⟩:=h1 g zB;exact eI.2 ⟨e',he',a⟩
 obtain⟨g,zB,hge⟩:=eI.1 hm;obtain⟨e',he',a,b⟩:=h1 g zB;have:e'=e:=by
  have Ve:=RB oT;have hinj:∀(l:List eB),(l.map (·.1)).Nodup->∀x∈l,∀y∈l,x.1=y.1->x=y:=by
   intro l
   induction l with
   | nil=>intro _ x hx;simp at hx
   | cons c l ih=>
    intro hd x hx y hy hxy;rw[cA,IW]at hd;rcases bk.1 hx with hx | hx
    .rcases bk.1 hy with hy | hy
     .rw[hx,hy]
     .exact absurd (eI.2 ⟨y,hy,by rw[<-hxy,hx]⟩) hd.1
    .rcases bk.1 hy with hy | hy
     .exact absurd (eI.2 ⟨x,hx,by rw[hxy,hy]⟩) hd.1
     .exact ih hd.2 x hx y hy hxy
  exact hinj _ Ve e' he' e he (by rw[a];exact hge)
 rw[this]at b;exact⟨g,zB,hge,b.symm⟩
theorem Nx:∀e∈dI o got,(0<=e.1/\e.1<20)/\(0<=e.2.1/\e.2.1<=1000)/\(0<=e.2.2.1/\e.2.2.1<=1000):=by
 intro e he;obtain⟨g,zB,h1,h2⟩:=(Bo ho hg nP hp dz).2.1 e he;have hr:=(KG ho hg nP).2.1 g.1 (eI.2 ⟨g,zB,rfl⟩);have hv:=hg g zB;refine⟨by omega,by omega,?_⟩;have hval:∀p,0<=val got p/\val got p<=6:=fun p=>MI hg p;have um:=tP ho;unfold dI at he;by_cases eK:o.1=1\/o.1=2\/o.1=3
 .rw[ak eK]at he;obtain⟨_,_,r3,_⟩:=MF (got:=got) (K:=o.2.1) (V:=o.2.2.1) (held:=val got (qw o.2.1)) (st:=val got 13) (xV ho dz eK);rw[r3,JX]at he;obtain⟨q,hq,hh,rfl⟩:=he;dsimp only;have hold:=hval q.1;unfold val at hold;generalize (eX got q.1).1=old at *;have zw:=hval 13;unfold e_ at hq;have Ap:0<=one old/\one old<=1000:=by unfold one;rw[qs (by omega) (by omega)];omega
  have n5:0<=less old/\less old<=1000:=by unfold less;rw[qs (by omega) (by omega)];split<;>omega
  have Vb:wrap .i64 (o.2.1+1)=o.2.1+1:=qs (by omega) (by omega);have ame:=um;have hc:q=(qw o.2.1,fun _=>o.2.2.1)\/q=(13,fun _=>val got 13)\/q.2=(fun _=>0)\/q.2=(fun _=>wrap .i64 (o.2.1+1))\/q.2=less\/q.2=one:=by
   cases mj:qh (val got (qw o.2.1)) != qh o.2.2.1
   .rw[mj]at hq;simp only[bg,gU,bk,dc,di]at hq;rcases hq with rfl | rfl | rfl | rfl | rfl | rfl<;>simp
   .rw[mj]at hq;simp only[bA,fH,gA,bk,dc,di]at hq;rcases hq with rfl | rfl | rfl | rfl | rfl | rfl | rfl | rfl<;>simp
  rcases hc with e | e | e | e | e | e
  .rw[e];show 0<=o.2.2.1/\o.2.2.1<=1000;omega
  .rw[e];show 0<=val got 13/\val got 13<=1000;omega
  .rw[e];show(0:Int)<=0/\(0:Int)<=1000;omega
  .rw[e];show 0<=wrap .i64 (o.2.1+1)/\wrap .i64 (o.2.1+1)<=1000;rw[Vb];omega
  .rw[e];exact n5
  .rw[e];exact Ap
 have hsame:∀p,0<=(same got p).2.2.1/\(same got p).2.2.1<=1000:=fun p=>by have:=hval p;unfold same;dsimp only;omega
 have zw:=hval 13;rw[af eK]at he;by_cases k7:o.1=7
 .rw[ak k7]at he;simp only[bk,dc,di]at he;rcases he with rfl | rfl | rfl | rfl<;>exact hsame _
 rw[af k7]at he;by_cases k8:o.1=8
 .rw[ak k8]at he;simp only[bk,dc,di]at he;subst he;dsimp only;omega
 rw[af k8]at he;by_cases k9:o.1=9
 .rw[ak k9]at he;simp only[bk]at he;rcases he with rfl | rfl | he
  .exact hsame _
  .dsimp only;rw[qs (by omega) (by omega)];omega
  .cases hin:bw (val got (qw (wrap .i64 (val got 13-1)))) 1 6
   .rw[hin]at he;simp at he
   .rw[hin,bA,d9]at he;subst he;dsimp only;omega
 rw[af k9]at he;by_cases jq:o.1=10
 .rw[ak jq]at he;simp only[bk,dc,di]at he;rcases he with rfl | rfl<;>exact hsame _
 rw[af jq]at he;simp at he
end
theorem B_{r:qp}(hr:aS r)(p:Int)(hp:0<=p/\p<20):0<=cg r p/\cg r p<=6:=by
 have hl:=hr.len;have hst:=hr.st;have hk:=fun v=>yR v r.1 0;unfold cg j5;by_cases h1:p.toNat<4
 .rw[ak h1];rw[qv (by omega)];exact hr.dQ _ (d_ _)
 rw[af h1];by_cases h2:p.toNat<10
 .rw[ak h2];have:=hk ((p.toNat:Int)-3);unfold qJ;split<;>omega
 rw[af h2];by_cases h3:p.toNat<13
 .rw[ak h3];have key:∀(c:Int)(l:List Int),0<=many c l/\many c l<=l.length:=by
   intro c l
   induction l with
   | nil=>simp[many]
   | cons a l ih=>simp only[many,cw];cases (bw a 1 6&&decide (qh a=c))<;>simp<;>omega
  have:=key ((p.toNat:Int)-10) r.1;omega
 rw[af h3];by_cases h4:p.toNat=13
 .rw[ak h4];omega
 rw[af h4];have:=hk ((p.toNat:Int)-13);unfold lC;split<;>omega
theorem akD{r:qp}(hr:aS r){o:cL}(ho:dh o=true){g0:dL}{q:Int}(hp:path (dJ (g0++[(q,cg r q,())])) (prog o)=g7 (g0++[(q,cg r q,())])){x:Int×List Int}(dz:mM o (g0++[(q,cg r q,())])=some x) :
  Out r o x.1 x.2/\jh r o x.1=r/\x.2.length<=4:=by
 have xA:dJ (g0++[(q,cg r q,())]) q=cg r q:=by unfold dJ;rw[Q9,ak rfl]
 have aZ:(path (dJ (g0++[(q,cg r q,())])) (prog o)).getLast? = some q:=by rw[hp];simp[g7]
 have hn:jP o.1 o.2.2.1 (dJ (g0++[(q,cg r q,())]) (qw o.2.1)) (dJ (g0++[(q,cg r q,())]) (q9 o.2.2.1)) (dJ (g0++[(q,cg r q,())]) 13) (dJ (g0++[(q,cg r q,())]) (iT o.2.1))=some x:=dz;clear hp dz;generalize dJ (g0++[(q,cg r q,())])=w at *;have um:=tP ho;have hst:=hr.st;have hl:=hr.len;have hrow:=vr o.2.1;have hown:=vf o.2.2.1;have hk:=yR o.2.2.1 r.1 0;unfold jP at hn;by_cases k1:o.1=1
 .have gZ:prog o=sL o:=by unfold prog;rw[ak k1]
  have hK:qw o.2.1=o.2.1:=by omega
  rw[gZ]at aZ;unfold sL at aZ;simp only[path]at aZ;by_cases a:w (qw o.2.1)≠0
  .rw[ak ⟨k1,a⟩]at hn;obtain rfl:=gV hn;rw[show(w (qw o.2.1) != 0)=true by rw[bL,b_ a];rfl,bA]at aZ;simp only[path,nK,aK]at aZ;rw[aZ,xA,<-aZ,hK,(tK hr (by omega)).1]at a;exact⟨.EO k1 a,by unfold jh;rw[ak (by decide)],by simp⟩
  .rw[af (fun z=>a z.2)]at hn;have a':w (qw o.2.1)=0:=by omega
   rw[show(w (qw o.2.1) != 0)=false by rw[bL,bG a'];rfl,bg]at aZ;simp only[path]at aZ;by_cases b:w (q9 o.2.2.1)≠0
   .rw[ak ⟨k1,b⟩]at hn;obtain rfl:=gV hn;rw[show(w (q9 o.2.2.1) != 0)=true by rw[bL,b_ b];rfl,bA]at aZ;simp only[path,N2,nK,aK]at aZ;rw[aZ,xA,<-aZ,Ji hr (by omega)]at b;exact⟨.EP k1 (by omega),by unfold jh;rw[ak (by decide)],by simp⟩
   .rw[af (fun z=>b z.2),af (by omega),af (by omega),af (by omega),af (by omega),af (by omega),af (by omega),af (by omega),af (by omega),af (by omega),af (by omega)]at hn;cases hn
 rw[af (fun z=>k1 z.1),af (fun z=>k1 z.1)]at hn;by_cases k2:o.1=2
 .have gZ:prog o=sM o:=by unfold prog;rw[af k1,ak k2]
  have hK:qw o.2.1=o.2.1:=by omega
  rw[gZ]at aZ;unfold sM at aZ;simp only[path]at aZ;have hone:(w (qw o.2.1)=0\/w (qw o.2.1)=o.2.2.1)->w (qw o.2.1)=r.1.getD o.2.1.toNat 0:=by
   intro h;rw[show(bif decide (w (qw o.2.1)=0) then true else decide (w (qw o.2.1)=o.2.2.1))=true by
    rcases h with h | h
    .rw[bG h];rfl
    .rw[bG h];cases decide (w (qw o.2.1)=0)<;>rfl,bA]at aZ
   simp only[path,nK,aK]at aZ;rw[aZ,xA,<-aZ,hK,(tK hr (by omega)).1]
  by_cases a:w (qw o.2.1)=0
  .rw[ak ⟨.inl k2,a⟩]at hn;obtain rfl:=gV hn;exact⟨.Jt k2 (by rw[<-hone (.inl a)];exact a),by unfold jh;rw[ak (by decide)],by simp⟩
  rw[af (fun z=>a z.2)]at hn;by_cases b:w (qw o.2.1)=o.2.2.1
  .rw[ak ⟨k2,b⟩]at hn;obtain rfl:=gV hn;have e:=hone (.inr b);rw[e]at a b;refine⟨.CE k2 a b,?_,by simp⟩;unfold jh;rw[af (by decide),ak (.inr k2)];have hs:r.1.set o.2.1.toNat o.2.2.1=r.1:=by rw[<-b,qv (by omega)];exact Z7 _
   rw[hs]
  rw[af (fun z=>b z.2)]at hn;by_cases d:w (q9 o.2.2.1)≠0
  .rw[ak ⟨k2,d⟩]at hn;obtain rfl:=gV hn;rw[b_ a,b_ b]at aZ;simp only[bg,path]at aZ;rw[show(w (q9 o.2.2.1) != 0)=true by rw[bL,b_ d];rfl,bA]at aZ;simp only[path,N2,nK,aK]at aZ;rw[aZ,xA,<-aZ,Ji hr (by omega)]at d;exact⟨.Js k2 (by omega),by unfold jh;rw[ak (by decide)],by simp⟩
  .rw[af (fun z=>d z.2),af (by omega),af (by omega),af (by omega),af (by omega),af (by omega),af (by omega),af (by omega)]at hn;cases hn
 by_cases k3:o.1=3
 .have gZ:prog o=vj o:=by unfold prog;rw[af k1,af k2,ak k3]
  have hK:qw o.2.1=o.2.1:=by omega
  rw[gZ]at aZ;unfold vj at aZ;simp only[path]at aZ;by_cases a:w (qw o.2.1)=0
  .rw[ak ⟨.inr (.inl k3),a⟩]at hn;obtain rfl:=gV hn;rw[bG a,bA]at aZ;simp only[path,nK,aK]at aZ;rw[aZ,xA,<-aZ,hK,(tK hr (by omega)).1]at a;exact⟨.DU k3 a,by unfold jh;rw[ak (by decide)],by simp⟩
  .rw[af (fun z=>a z.2),af (by omega),af (by omega),af (by omega),af (by omega),af (by omega),af (by omega),af (by omega),af (by omega),af (by omega)]at hn;cases hn
 by_cases k4:o.1=4
 .have gZ:prog o=.ask (qw o.2.1) fun _=>.done:=by unfold prog;rw[af k1,af k2,af k3,ak k4]
  have hK:qw o.2.1=o.2.1:=by omega
  rw[gZ]at aZ;simp only[path,nK,aK]at aZ;have e:w (qw o.2.1)=r.1.getD o.2.1.toNat 0:=by rw[aZ,xA,<-aZ,hK,(tK hr (by omega)).1]
  rw[e]at hn;by_cases a:r.1.getD o.2.1.toNat 0=0
  .rw[ak ⟨.inr (.inr k4),a⟩]at hn;obtain rfl:=gV hn;exact⟨.D6 k4 a,by unfold jh;rw[ak (by decide)],by simp⟩
  .rw[af (fun z=>a z.2),af (by omega),af (by omega),ak k4]at hn;obtain rfl:=gV hn;exact⟨.D5 k4 a,UB 0 (by omega),by simp⟩
 rw[af (by omega),af (by omega),af (by omega),af (by omega)]at hn;by_cases k5:o.1=5
 .have gZ:prog o=.ask (q9 o.2.2.1) fun _=>.done:=by unfold prog;rw[af k1,af k2,af k3,af k4,ak k5]
  rw[gZ]at aZ;simp only[path,nK,aK]at aZ;have e:w (q9 o.2.2.1)=bf o.2.2.1 r.1 0+1:=by rw[aZ,xA,<-aZ,Ji hr (by omega)]
  rw[e]at hn;by_cases a:bf o.2.2.1 r.1 0+1=0
  .rw[ak ⟨k5,a⟩]at hn;obtain rfl:=gV hn;exact⟨.wO k5 (by omega),by unfold jh;rw[ak (by decide)],by simp⟩
  .rw[af (fun z=>a z.2),ak k5]at hn;obtain rfl:=gV hn;rw[qs (by omega) (by omega),show bf o.2.2.1 r.1 0+1-1=bf o.2.2.1 r.1 0 by omega];exact⟨.wN k5 (by omega),UB 0 (by omega),by simp⟩
 rw[af (fun z=>k5 z.1),af k5]at hn;by_cases k6:o.1=6
 .have gZ:prog o=.ask (iT o.2.1) fun _=>.done:=by unfold prog;rw[af k1,af k2,af k3,af k4,af k5,ak k6]
  rw[gZ]at aZ;simp only[path,nK,aK]at aZ;have e:w (iT o.2.1)=many o.2.1 r.1:=by rw[aZ,xA,<-aZ,RP (by omega)]
  rw[ak k6,e]at hn;obtain rfl:=gV hn;exact⟨.DS k6,UB 0 (by omega),by simp⟩
 rw[af k6]at hn;by_cases k8:o.1=8
 .have gZ:prog o=.ask 13 fun _=>.done:=by unfold prog;rw[af k1,af k2,af k3,af k4,af k5,af k6,af (by omega),ak k8]
  rw[gZ]at aZ;simp only[path,nK,aK]at aZ;have e:w 13=r.2.1:=by rw[aZ,xA,<-aZ,DA]
  rw[e]at hn;by_cases a:r.2.1≠0
  .rw[ak ⟨k8,a⟩]at hn;obtain rfl:=gV hn;exact⟨.xH k8 a,by unfold jh;rw[ak (by decide)],by simp⟩
  .rw[af (fun z=>a z.2),af (by omega),af (by omega)]at hn;cases hn
 rw[af (fun z=>k8 z.1)]at hn;by_cases k9:o.1=9
 .have gZ:prog o=yM:=by unfold prog;rw[af k1,af k2,af k3,af k4,af k5,af k6,af (by omega),af k8,ak k9]
  rw[gZ]at aZ;unfold yM at aZ;simp only[path]at aZ;by_cases a:w 13<1\/w 13>4
  .rw[ak ⟨k9,a⟩]at hn;obtain rfl:=gV hn;rw[show(bif decide (w 13<1) then true else decide (w 13>4))=true by
    rcases a with h | h
    .rw[bG h];rfl
    .rw[bG h];cases decide (w 13<1)<;>rfl,bA]at aZ
   simp only[path,nK,aK]at aZ;rw[aZ,xA,<-aZ,DA]at a;exact⟨.xF k9 (by omega),by unfold jh;rw[ak (by decide)],by simp⟩
  .rw[af (fun z=>a z.2),af (by omega)]at hn;cases hn
 rw[af (fun z=>k9 z.1)]at hn;by_cases jq:o.1=10
 .have gZ:prog o=wk o:=by unfold prog;rw[af k1,af k2,af k3,af k4,af k5,af k6,af (by omega),af k8,af k9,ak jq]
  rw[gZ]at aZ;unfold wk at aZ;simp only[path]at aZ;by_cases a:w 13≠5
  .rw[ak ⟨jq,a⟩]at hn;obtain rfl:=gV hn;rw[show(w 13 != 5)=true by rw[bL,b_ a];rfl,bA]at aZ;simp only[path,nK,aK]at aZ;rw[aZ,xA,<-aZ,DA]at a;exact⟨.Jw jq a,by unfold jh;rw[ak (by decide)],by simp⟩
  .rw[af (fun z=>a z.2)]at hn;cases hn
 .rw[af (fun z=>jq z.1)]at hn;cases hn
theorem acF{r:qp}(hr:aS r){o:cL}(ho:dh o=true)(dz:mM o (fy r o)=none) :
  Out r o (eF o (fy r o)).1 (eF o (fy r o)).2.1:=by
 have gq:dh o=true/\(run (fy r o) (prog o)).2<0:=⟨ho,by rw[GX hr ho];show(-1:Int)<0;omega⟩
 have h:=NQ hr ho;unfold gj at h;rw[ak gq,dz]at h;exact h
theorem Nj(o:cL)(got:dL):(eF o got).2.1.length<=4:=by
 unfold eF;split
 .simp
 .split
  .split<;>simp
  .simp
abbrev lK:=Int×Int×Int×Unit
abbrev fC:=Int×List Int×Unit
abbrev ny:=Int×Int×List eB×fC×Unit
abbrev gx:=Int×Int×Int×Int×Unit
abbrev aU:=List lK×List ny×Unit
abbrev cN:=List cL×Int×Bool×dL×List gx×Unit
abbrev gi:=Int×cL×Int×Int×Int×fC×Unit
abbrev aH:=aU×List cN×Int×List gi×List Int×qp×Unit
def dE:eB:=(0,0,0,())
def dD:ny:=(0,0,[],(0,[],()),())
def dW:lK:=(0,0,0,())
def dO:cL:=(0,0,0,())
def dT:cN:=([],0,false,[],[],())
def dC:gi:=(0,dO,0,0,0,(0,[],()),())
def dH:gx:=(0,0,0,0,())
def wd(m:aU)(p:Int):lK:=m.1.getD p.toNat dW
def aq(m:aU)(t:Int):ny:=m.2.1.getD t.toNat dD
def eA(m:aU)(p:Int)(w:lK):aU:=(m.1.set p.toNat w,m.2)
def bJ(m:aU)(t:Int)(d:ny):aU:=(m.1,m.2.1.set t.toNat d,())
def qi(l:List eB)(i:Int):eB:=l.getD i.toNat dE
def jI(l:List eB)(p:Int):eB:=(l.find? fun e=>decide (e.1=p)).getD dE
def dM(t s:Int):lK:=(0,t+1,s,())
def fY(m:aU)(p:Int):Int:=
 if (wd m p).2.1=0 then (wd m p).1 else
 if (aq m ((wd m p).2.1-1)).1=(wd m p).2.2.1/\(aq m ((wd m p).2.1-1)).2.1=2 then (jI (aq m ((wd m p).2.1-1)).2.2.1 p).2.2.1 else (jI (aq m ((wd m p).2.1-1)).2.2.1 p).2.1
def q7(m:aU)(h:gx):aU×gx×gx×Int×Unit:=
 if (aq m h.1).1≠h.2.1 then (m,h,dH,2,()) else
 if (aq m h.1).2.1=1 then
  if ((aq m h.1).2.2.1.length:Int)<=h.2.2.1 then (bJ m h.1 ((aq m h.1).1,2,(aq m h.1).2.2),h,dH,3,()) else
  if wd m (qi (aq m h.1).2.2.1 h.2.2.1).1=dM h.1 h.2.1 then (m,(h.1,h.2.1,h.2.2.1+1,h.2.2.2),dH,0,()) else
  if (wd m (qi (aq m h.1).2.2.1 h.2.2.1).1).2.1≠0 then (m,h,((wd m (qi (aq m h.1).2.2.1 h.2.2.1).1).2.1-1,(wd m (qi (aq m h.1).2.2.1 h.2.2.1).1).2.2.1,0,0,()),1,()) else
  if (wd m (qi (aq m h.1).2.2.1 h.2.2.1).1).1=(qi (aq m h.1).2.2.1 h.2.2.1).2.1 then (eA m (qi (aq m h.1).2.2.1 h.2.2.1).1 (dM h.1 h.2.1),(h.1,h.2.1,h.2.2.1+1,h.2.2.2),dH,0,())
  else (bJ m h.1 ((aq m h.1).1,3,(aq m h.1).2.2),h,dH,0,())
 else if ((aq m h.1).2.2.1.length:Int)<=h.2.2.2.1 then (m,h,dH,2,())
 else (if wd m (qi (aq m h.1).2.2.1 h.2.2.2.1).1=dM h.1 h.2.1 then
   eA m (qi (aq m h.1).2.2.1 h.2.2.2.1).1 (if (aq m h.1).2.1=2 then (qi (aq m h.1).2.2.1 h.2.2.2.1).2.2.1 else (qi (aq m h.1).2.2.1 h.2.2.2.1).2.1,0,0,()) else m,(h.1,h.2.1,h.2.2.1,h.2.2.2.1+1,()),dH,0,())
def ai(m:aH)(t:Int):cN:=m.2.1.getD t.toNat dT
def cB(m:aH)(t:Int)(x:cN):aH:=(m.1,m.2.1.set t.toNat x,m.2.2)
def CM(m:aH)(k:Int):gi:=m.2.2.2.1.getD k.toNat dC
def aW(x:cN):cL:=x.1.getD x.2.1.toNat dO
def qX(l:List gi)(t:Int):Nat->Int
 | 0=>-1
 | i+1=>if (l.getD i dC).1=t/\(l.getD i dC).2.2.2.2.1<0 then (i:Int) else qX l t i
def kI(l:List gi)(t:Int):Int:=qX l t l.length
def iE(m:aH)(t:Int)(s:fC):aH:=
 if kI m.2.2.2.1 t<0 then m else
 (m.1,m.2.1,m.2.2.1,m.2.2.2.1.set (kI m.2.2.2.1 t).toNat ((CM m (kI m.2.2.2.1 t)).1,(CM m (kI m.2.2.2.1 t)).2.1,(CM m (kI m.2.2.2.1 t)).2.2.1,m.2.2.1,(CM m (kI m.2.2.2.1 t)).2.2.2.2.1,s,()),m.2.2.2.2.1++[kI m.2.2.2.1 t],m.2.2.2.2.2)
def iu(m:aH)(t:Int)(s:fC):aH:=
 if kI m.2.2.2.1 t<0 then m else
 (m.1,m.2.1,m.2.2.1,m.2.2.2.1.set (kI m.2.2.2.1 t).toNat ((CM m (kI m.2.2.2.1 t)).1,(CM m (kI m.2.2.2.1 t)).2.1,(CM m (kI m.2.2.2.1 t)).2.2.1,(CM m (kI m.2.2.2.1 t)).2.2.2.1,m.2.2.1,s,()),m.2.2.2.2)
def er(m:aH)(t:Int)(s:fC):aH:=cB (iu m t s) t ((ai m t).1,(ai m t).2.1+1,false,[],[],())
def au(x:cN):gx:=x.2.2.2.2.1.getD (x.2.2.2.2.1.length-1) dH
def rf(x:cN)(h:gx):cN:=(x.1,x.2.1,x.2.2.1,x.2.2.2.1,x.2.2.2.2.1++[h],())
def ko(x:cN)(h:gx):cN:=(x.1,x.2.1,x.2.2.1,x.2.2.2.1,x.2.2.2.2.1.set (x.2.2.2.2.1.length-1) h,())
def jg(x:cN):cN:=(x.1,x.2.1,x.2.2.1,x.2.2.2.1,x.2.2.2.2.1.take (x.2.2.2.2.1.length-1),())
def cI(m:aH)(a:aU):aH:=(a,m.2)
def kH(m:aH)(t:Int):aH:=
  if (q7 m.1 (au (ai m t))).2.2.2.1=1 then
    (if (au (ai m t)).1=t/\(ai m t).2.2.2.2.1.length=1 then cB (cI m (q7 m.1 (au (ai m t))).1) t (rf (ai m t) (q7 m.1 (au (ai m t))).2.2.1)
     else cB (cI m (q7 m.1 (au (ai m t))).1) t (ko (ai m t) (q7 m.1 (au (ai m t))).2.2.1)) else
  if (q7 m.1 (au (ai m t))).2.2.2.1=2 then
    (if (au (ai m t)).1≠t then cB (cI m (q7 m.1 (au (ai m t))).1) t (jg (ai m t)) else
     if (aq m.1 t).2.1=2 then er (cI m (q7 m.1 (au (ai m t))).1) t (aq m.1 t).2.2.2.1
     else cB (cI m (q7 m.1 (au (ai m t))).1) t ((ai m t).1,(ai m t).2.1,(ai m t).2.2.1,[],[],())) else
  if (q7 m.1 (au (ai m t))).2.2.2.1=3 then
    cB (iE (cI m (q7 m.1 (au (ai m t))).1) (au (ai m t)).1 (aq m.1 (au (ai m t)).1).2.2.2.1) t (ko (ai m t) (q7 m.1 (au (ai m t))).2.1)
  else cB (cI m (q7 m.1 (au (ai m t))).1) t (ko (ai m t) (q7 m.1 (au (ai m t))).2.1)
def Db(x:cN):Int:=(run x.2.2.2.1 (prog (aW x))).2
def iA(m:aH)(x:cN):dL:=x.2.2.2.1++[(Db x,(wd m.1 (Db x)).1,())]
def rX(x:cN)(g:dL):cN:=(x.1,x.2.1,x.2.2.1,g,x.2.2.2.2)
def tR(m:aH)(t:Int):aH:=
 if (wd m.1 (Db (ai m t))).2.1≠0 then cB m t (rf (ai m t) ((wd m.1 (Db (ai m t))).2.1-1,(wd m.1 (Db (ai m t))).2.2.1,0,0,())) else
 if (gj (aW (ai m t)) (iA m (ai m t))).2.1=false then cB m t (rX (ai m t) (iA m (ai m t))) else
 if (gj (aW (ai m t)) (iA m (ai m t))).1.1=true then er (iE m t (gj (aW (ai m t)) (iA m (ai m t))).1.2.1) t (gj (aW (ai m t)) (iA m (ai m t))).1.2.1 else
 cB (cI m (bJ m.1 t ((aq m.1 t).1+1,1,(gj (aW (ai m t)) (iA m (ai m t))).1.2.2.1,(gj (aW (ai m t)) (iA m (ai m t))).1.2.1,()))) t
  (rf (rX (ai m t) (iA m (ai m t))) (t,(aq m.1 t).1+1,0,0,()))
def tick(m:aH):aH:=(m.1,m.2.1,m.2.2.1+1,m.2.2.2)
def pT(m:aH)(t:Int):aH:=
 cB (m.1,m.2.1,m.2.2.1,m.2.2.2.1++[(t,aW (ai m t),m.2.2.1,-1,-1,(0,[],()),())],m.2.2.2.2) t ((ai m t).1,(ai m t).2.1,true,(ai m t).2.2.2)
def vF(m:aH)(t:Int):aH:=
 if (ai m t).2.2.1=false then pT (tick m) t else
 if (ai m t).2.2.2.2.1≠[] then kH (tick m) t else tR (tick m) t
theorem Mq{α:Type}(l:List α)(i j:Nat)(x d:α):(l.set i x).getD j d=if i=j/\j<l.length then x else l.getD j d:=by
 simp only[IA,jZ];by_cases h:i=j
 .subst h;by_cases h2:i<l.length
  .simp[h2]
  .simp[h2]
 .simp[h]
theorem Fj{m:aU}{p q:Int}{w:lK}(hp:0<=p/\p<m.1.length)(hq:0<=q):wd (eA m p w) q=if q=p then w else wd m q:=by
 unfold wd eA;dsimp only;rw[Mq];by_cases h:q=p
 .subst h;rw[ak ⟨rfl,by omega⟩,ak rfl]
 .rw[af (by omega),af h]
theorem Iw{m:aU}{u:Int}{d:ny}(q:Int):wd (bJ m u d) q=wd m q:=rfl
theorem n_{m:aU}{u t:Int}{d:ny}(hu:0<=u/\u<m.2.1.length)(ht:0<=t):aq (bJ m u d) t=if t=u then d else aq m t:=by
 unfold aq bJ;dsimp only;rw[Mq];by_cases h:t=u
 .subst h;rw[ak ⟨rfl,by omega⟩,ak rfl]
 .rw[af (by omega),af h]
theorem qW{m:aH}{u t:Int}{x:cN}(hu:0<=u/\u<m.2.1.length)(ht:0<=t):ai (cB m u x) t=if t=u then x else ai m t:=by
 unfold ai cB;dsimp only;rw[Mq];by_cases h:t=u
 .subst h;rw[ak ⟨rfl,by omega⟩,ak rfl]
 .rw[af (by omega),af h]
theorem o7(m:aH)(u:Int)(x:cN):(cB m u x).2.1.length=m.2.1.length:=by unfold cB;simp
theorem zS{m m':aH}(h:m'.2.1=m.2.1)(t:Int):ai m' t=ai m t:=by unfold ai;rw[h]
theorem MW(m:aU)(p:Int)(w:lK):(eA m p w).1.length=m.1.length:=by unfold eA;simp
theorem HD(m:aU)(p:Int)(w:ny):(bJ m p w).2.1.length=m.2.1.length:=by unfold bJ;simp
theorem A_{l:List eB}(h:lO l){i:Int}(h0:0<=i)(h1:i<l.length):jI l (qi l i).1=qi l i:=by
 have key:∀(l:List eB),lO l->∀k:Nat,(hk:k<l.length)->l.find? (fun e=>decide (e.1=l[k].1))=some l[k]:=by
  intro l
  induction l with
  | nil=>intro _ k hk;simp at hk
  | cons a l ih=>
   intro hs k hk;rw[lO,me]at hs;cases k with
   | zero=>simp
   | succ k=>
    have hk2:k<l.length:=by simpa using hk
    simp only[Th];have:=hs.1 (l[k]'hk2) (d_ _);rw[List.find?_cons,show decide (a.1=(l[k]'hk2).1)=false from b_ (by omega)];exact ih hs.2 k hk2
 have hk:i.toNat<l.length:=by omega
 unfold jI qi;rw[qv hk,key l h _ hk];rfl
theorem Mv{l:List eB}{i:Int}(h0:0<=i)(h1:i<l.length):qi l i∈l:=by
 have hk:i.toNat<l.length:=by omega
 unfold qi;rw[qv hk];exact d_ _
theorem Su{l:List eB}{e:eB}(h:e∈l):∃i:Int,0<=i/\i<l.length/\qi l i=e:=by obtain⟨k,hk,rfl⟩:=lG.1 h;refine⟨(k:Int),by omega,by omega,?_⟩;unfold qi;rw[d5,qv hk]
theorem Ss{l:List eB}(h:lO l){i j:Int}(h0:0<=i)(h1:i<j)(h2:j<l.length):(qi l i).1<(qi l j).1:=by
 have hi:i.toNat<l.length:=by omega
 have hj:j.toNat<l.length:=by omega
 unfold qi;rw[qv hi,qv hj];exact yl.1 h _ _ hi hj (by omega)
theorem abQ{l:List eB}(h:lO l){i j:Int}(h0:0<=i)(h1:i<l.length)(g0:0<=j)(g1:j<l.length)(e:(qi l i).1=(qi l j).1):i=j:=by
 rcases AN i j with k | k | k
 .have:=Ss h h0 k g1;omega
 .exact k
 .have:=Ss h g0 k h1;omega
def bD(x:cN)(t:Int):Bool:=match x.2.2.2.2.1 with
 | []=>false
 | h::_=>decide (h.1=t)
structure ow (d:ny) (time:Int):Prop where
 z7:lO d.2.2.1
 len:d.2.2.1.length<=8
 dQ:∀e∈d.2.2.1,(0<=e.1/\e.1<20)/\(0<=e.2.1/\e.2.1<=1000)/\(0<=e.2.2.1/\e.2.2.1<=1000)
 seq:0<=d.1/\d.1<=time
 st:(d.1=0->d=dD)/\(1<=d.1->1<=d.2.1/\d.2.1<=3)
 rl:d.2.2.2.1.2.1.length<=4
def UT(w:lK):Prop:=w.2.1=0/\w.2.2.1=0/\0<=w.1/\w.1<=1000
def BI(m:aU)(n:Nat)(own:Int->Prop)(p:Int):Prop:=
 ∃u:Int,0<=u/\u<n/\own u/\wd m p=dM u (aq m u).1/\∃i:Int,0<=i/\i<(aq m u).2.2.1.length/\(qi (aq m u).2.2.1 i).1=p
structure eY (m:aU) (n:Nat) (time:Int) (own:Int->Prop):Prop where
 len:m.1.length=20
 dw:m.2.1.length=n
 dy:∀t:Int,0<=t->t<n->ow (aq m t) time
 word:∀p:Int,0<=p->p<20->UT (wd m p)\/BI m n own p
 jQ:∀t:Int,0<=t->t<n->(aq m t).2.1=1->own t
 kX:∀t:Int,0<=t->t<n->own t->1<=(aq m t).1
 pre:∀t:Int,0<=t->t<n->(aq m t).2.1=1->∀i j:Int,0<=i->i<j->j<(aq m t).2.2.1.length->wd m (qi (aq m t).2.2.1 j).1=dM t (aq m t).1->wd m (qi (aq m t).2.2.1 i).1=dM t (aq m t).1
structure bW (m:aU) (n:Nat) (h:gx):Prop where
 t:0<=h.1/\h.1<n
 seq:1<=h.2.1/\h.2.1<=(aq m h.1).1
 r7:0<=h.2.2.1/\h.2.2.1<=8
 fin:0<=h.2.2.2.1/\h.2.2.2.1<=8
 cur:h.2.1=(aq m h.1).1->h.2.2.1<=(aq m h.1).2.2.1.length/\h.2.2.2.1<=(aq m h.1).2.2.1.length/\
  ((aq m h.1).2.1=1->h.2.2.2.1=0/\∀i:Int,0<=i->i<h.2.2.1->wd m (qi (aq m h.1).2.2.1 i).1=dM h.1 h.2.1)/\
  ((aq m h.1).2.1≠1->∀i:Int,0<=i->i<h.2.2.2.1->wd m (qi (aq m h.1).2.2.1 i).1≠dM h.1 h.2.1)
theorem tM{a b s r:Int}(h:dM a s=dM b r):a=b/\s=r:=by simp only[dM,aY]at h;omega
theorem vA{w:lK}(h:w.2.1=0){a s:Int}(ha:0<=a):w≠dM a s:=fun e=>by rw[e]at h;simp only[dM]at h;omega
theorem eY.gX{m:aU}{n:Nat}{time:Int}{own:Int->Prop}(I:eY m n time own){t i:Int}(h0:0<=t)(h1:t<n)(i0:0<=i)(i1:i<(aq m t).2.2.1.length) :
  (0<=(qi (aq m t).2.2.1 i).1/\(qi (aq m t).2.2.1 i).1<20)/\(0<=(qi (aq m t).2.2.1 i).2.1/\(qi (aq m t).2.2.1 i).2.1<=1000)/\(0<=(qi (aq m t).2.2.1 i).2.2.1/\(qi (aq m t).2.2.1 i).2.2.1<=1000):=
 (I.dy t h0 h1).dQ _ (Mv i0 i1)
theorem eY.Ju{m:aU}{n:Nat}{time:Int}{own:Int->Prop}(I:eY m n time own){t:Int}(h0:0<=t)(h1:t<n)(hs:(aq m t).2.1≠0):1<=(aq m t).1:=by
 have:=(I.dy t h0 h1).seq;by_cases h:(aq m t).1=0
 .exact absurd (by rw[((I.dy t h0 h1).st.1 h)];rfl) hs
 .omega
theorem vk{m:aU}{p:Int}(h:(wd m p).2.1=0):fY m p=(wd m p).1:=by unfold fY;rw[ak h]
theorem zT{m:aU}{u p:Int}(hu:0<=u)(h:wd m p=dM u (aq m u).1):fY m p=if (aq m u).2.1=2 then (jI (aq m u).2.2.1 p).2.2.1 else (jI (aq m u).2.2.1 p).2.1:=by
 have e1:(wd m p).2.1=u+1:=by rw[h];rfl
 have e2:(wd m p).2.2.1=(aq m u).1:=by rw[h];rfl
 have e3:(wd m p).2.1-1=u:=by omega
 unfold fY;rw[af (by omega),e3,e2];by_cases h2:(aq m u).2.1=2
 .rw[ak ⟨rfl,h2⟩,ak h2]
 .rw[af (fun q=>h2 q.2),af h2]
theorem eY.kW{m:aU}{n:Nat}{time:Int}{own lY:Int->Prop}(I:eY m n time own)(h:∀t:Int,0<=t->t<n->(own t↔lY t)):eY m n time lY where
 len:=I.len
 dw:=I.dw
 dy:=I.dy
 word:=fun p h0 h1=>(I.word p h0 h1).imp id fun⟨u,a,b,c,d⟩=>⟨u,a,b,(h u a b).1 c,d⟩
 jQ:=fun t a b c=>(h t a b).1 (I.jQ t a b c)
 kX:=fun t a b c=>I.kX t a b ((h t a b).2 c)
 pre:=I.pre
theorem ow.mono{d:ny}{a b:Int}(h:ow d a)(hab:a<=b):ow d b:=⟨h.z7,h.len,h.dQ,⟨h.seq.1,by have:=h.seq.2;omega⟩,h.st,h.rl⟩
theorem eY.C8{m:aU}{n:Nat}{time time':Int}{own:Int->Prop}(I:eY m n time own)(h:time<=time'):eY m n time' own:=⟨I.len,I.dw,fun t a b=>(I.dy t a b).mono h,I.word,I.jQ,I.kX,I.pre⟩
theorem RY{m:aU}{n:Nat}{time:Int}{own:Int->Prop}(I:eY m n time own){t:Int}(h0:0<=t)(hn:¬ own t){p:Int}(p0:0<=p)(p1:p<20)(s:Int):wd m p≠dM t s:=by
 intro e;rcases I.word p p0 p1 with h | ⟨u,a,b,c,d,_⟩
 .exact vA h.1 h0 e
 .rw[e]at d;obtain⟨rfl,_⟩:=tM d;exact hn c
section
variable {m:aU} {n:Nat} {time:Int} {own:Int->Prop} (I:eY m n time own) {u:Int} (u0:0<=u) (u1:u<n)
include I u0 u1
theorem Fc{i:Int}(hs:(aq m u).2.1=1)(i0:0<=i)(i1:i<(aq m u).2.2.1.length)(hw:(wd m (qi (aq m u).2.2.1 i).1).2.1=0)(hold:(wd m (qi (aq m u).2.2.1 i).1).1=(qi (aq m u).2.2.1 i).2.1)
  (hb:∀j:Int,0<=j->j<i->wd m (qi (aq m u).2.2.1 j).1=dM u (aq m u).1) :
  eY (eA m (qi (aq m u).2.2.1 i).1 (dM u (aq m u).1)) n time own/\(∀p:Int,0<=p->p<20->fY (eA m (qi (aq m u).2.2.1 i).1 (dM u (aq m u).1)) p=fY m p)/\
  (∀h,bW m n h->bW (eA m (qi (aq m u).2.2.1 i).1 (dM u (aq m u).1)) n h):=by
 have he:=I.gX u0 u1 i0 i1;have oT:=(I.dy u u0 u1).z7;have hlen:=I.len;have se:=A_ oT i0 i1;generalize hp:(qi (aq m u).2.2.1 i).1=P at *;have mH:∀q,0<=q->wd (eA m P (dM u (aq m u).1)) q=if q=P then dM u (aq m u).1 else wd m q:=fun q hq=>Fj (by omega) hq
 have hd:∀t,aq (eA m P (dM u (aq m u).1)) t=aq m t:=fun t=>rfl;have hkeep:∀q t s,0<=t->0<=q->wd m q=dM t s->wd (eA m P (dM u (aq m u).1)) q=dM t s:=by
  intro q t s t0 q0 e;rw[mH q q0];by_cases h:q=P
  .subst h;exact absurd e (vA hw t0)
  .rw[af h];exact e
 have hnm:∀q t,0<=q->t≠u->wd (eA m P (dM u (aq m u).1)) q=dM t (aq m t).1->wd m q=dM t (aq m t).1:=by
  intro q t q0 tu e;rw[mH q q0]at e;by_cases h:q=P
  .rw[ak h]at e;exact absurd (tM e).1.symm tu
  .rw[af h]at e;exact e
 refine⟨⟨by rw[MW];exact I.len,I.dw,I.dy,?_,I.jQ,I.kX,?_⟩,?_,?_⟩
 .intro p p0 p1;unfold BI;rw[mH p p0];by_cases h:p=P
  .subst h;rw[ak rfl];exact .inr ⟨u,u0,u1,I.jQ u u0 u1 hs,rfl,i,i0,i1,hp⟩
  .rw[af h];exact I.word p p0 p1
 .intro t t0 t1 ts a b a0 ab b1 e;rw[hd] at *;have Ai:=I.gX t0 t1 a0 (by omega:a<_);have Va:=I.gX t0 t1 (by omega:0<=b) b1;by_cases htu:t=u
  .subst htu;rw[mH _ Va.1.1]at e;by_cases h:(qi (aq m t).2.2.1 b).1=P
   .have U7:b=i:=abQ oT (by omega) b1 i0 i1 (by rw[h,hp]);exact hkeep _ _ _ t0 Ai.1.1 (hb a a0 (by omega))
   .rw[af h]at e;exact hkeep _ _ _ t0 Ai.1.1 (I.pre t t0 t1 ts a b a0 ab b1 e)
  .exact hkeep _ _ _ t0 Ai.1.1 (I.pre t t0 t1 ts a b a0 ab b1 (hnm _ t Va.1.1 htu e))
 .intro p p0 p1;by_cases h:p=P
  .subst h;rw[vk hw,zT u0 (by rw[mH p p0,ak rfl,hd]),hd,af (by omega),se,hold]
  .unfold fY;rw[mH p p0,af h];rfl
 .intro h H;refine⟨H.t,H.seq,H.r7,H.fin,fun e=>?_⟩;obtain⟨a,b,c,d⟩:=H.cur e;refine⟨a,b,fun hs'=>⟨(c hs').1,fun j j0 j1=>?_⟩,fun hs' j j0 j1=>?_⟩
  .exact hkeep _ _ _ H.t.1 (I.gX H.t.1 H.t.2 j0 (by omega)).1.1 ((c hs').2 j j0 j1)
  .intro q;have hne:h.1≠u:=fun e2=>hs' (by rw[hd,e2];exact hs);have hj:=I.gX H.t.1 H.t.2 j0 (show j<_ by omega);have e':h.2.1=(aq m h.1).1:=e;rw[hd,e']at q;exact d hs' j j0 j1 (by rw[e'];exact hnm _ _ hj.1.1 hne q)
theorem Nz{i:Int}(hs:(aq m u).2.1≠1)(i0:0<=i)(i1:i<(aq m u).2.2.1.length)(hw:wd m (qi (aq m u).2.2.1 i).1=dM u (aq m u).1) :
  eY (eA m (qi (aq m u).2.2.1 i).1 (if (aq m u).2.1=2 then (qi (aq m u).2.2.1 i).2.2.1 else (qi (aq m u).2.2.1 i).2.1,0,0,())) n time own/\
  (∀p:Int,0<=p->p<20->fY (eA m (qi (aq m u).2.2.1 i).1 (if (aq m u).2.1=2 then (qi (aq m u).2.2.1 i).2.2.1 else (qi (aq m u).2.2.1 i).2.1,0,0,())) p=fY m p)/\
  (∀h,bW m n h->bW (eA m (qi (aq m u).2.2.1 i).1 (if (aq m u).2.1=2 then (qi (aq m u).2.2.1 i).2.2.1 else (qi (aq m u).2.2.1 i).2.1,0,0,())) n h):=by
 have he:=I.gX u0 u1 i0 i1;have oT:=(I.dy u u0 u1).z7;have hlen:=I.len;have se:=A_ oT i0 i1;have hv:0<=(if (aq m u).2.1=2 then (qi (aq m u).2.2.1 i).2.2.1 else (qi (aq m u).2.2.1 i).2.1)/\(if (aq m u).2.1=2 then (qi (aq m u).2.2.1 i).2.2.1 else (qi (aq m u).2.2.1 i).2.1)<=1000:=by split<;>omega
 have hval:fY m (qi (aq m u).2.2.1 i).1=(if (aq m u).2.1=2 then (qi (aq m u).2.2.1 i).2.2.1 else (qi (aq m u).2.2.1 i).2.1):=by rw[zT u0 hw,se]
 generalize (if (aq m u).2.1=2 then (qi (aq m u).2.2.1 i).2.2.1 else (qi (aq m u).2.2.1 i).2.1)=v at *;generalize hp:(qi (aq m u).2.2.1 i).1=P at *;have mH:∀q,0<=q->wd (eA m P (v,0,0,())) q=if q=P then (v,0,0,()) else wd m q:=fun q hq=>Fj (by omega) hq
 have hd:∀t,aq (eA m P (v,0,0,())) t=aq m t:=fun t=>rfl;have hkeep:∀q t,t≠u->0<=q->wd m q=dM t (aq m t).1->wd (eA m P (v,0,0,())) q=dM t (aq m t).1:=by
  intro q t tu q0 e;rw[mH q q0];by_cases h:q=P
  .subst h;rw[hw]at e;exact absurd (tM e).1.symm tu
  .rw[af h];exact e
 have eS:∀q t s,0<=t->0<=q->wd (eA m P (v,0,0,())) q=dM t s->wd m q=dM t s:=by
  intro q t s t0 q0 e;rw[mH q q0]at e;by_cases h:q=P
  .rw[ak h]at e;exact absurd e (vA rfl t0)
  .rw[af h]at e;exact e
 refine⟨⟨by rw[MW];exact I.len,I.dw,I.dy,?_,I.jQ,I.kX,?_⟩,?_,?_⟩
 .intro p p0 p1;unfold BI;rw[mH p p0];by_cases h:p=P
  .rw[ak h];exact .inl ⟨rfl,rfl,hv.1,hv.2⟩
  .rw[af h];exact I.word p p0 p1
 .intro t t0 t1 ts a b a0 ab b1 e;rw[hd] at *;have Ai:=I.gX t0 t1 a0 (by omega:a<_);have Va:=I.gX t0 t1 (by omega:0<=b) b1;have htu:t≠u:=fun e2=>hs (by rw[<-e2];exact ts);exact hkeep _ _ htu Ai.1.1 (I.pre t t0 t1 ts a b a0 ab b1 (eS _ t _ t0 Va.1.1 e))
 .intro p p0 p1;by_cases h:p=P
  .subst h;rw[hval,vk (by rw[mH p p0,ak rfl]),mH p p0,ak rfl]
  .unfold fY;rw[mH p p0,af h];rfl
 .intro h H;refine⟨H.t,H.seq,H.r7,H.fin,fun e=>?_⟩;obtain⟨a,b,c,d⟩:=H.cur e;refine⟨a,b,fun hs'=>⟨(c hs').1,fun j j0 j1=>?_⟩,fun hs' j j0 j1 q=>?_⟩
  .have hne:h.1≠u:=fun e2=>hs (by rw[<-e2];exact hs');have hj:=I.gX H.t.1 H.t.2 j0 (show j<_ by omega);have e':h.2.1=(aq m h.1).1:=e;have:=(c hs').2 j j0 j1;rw[e']at this;show wd _ (qi (aq m h.1).2.2.1 j).1=_;rw[e'];exact hkeep _ _ hne hj.1.1 this
  .exact d hs' j j0 j1 (eS _ _ _ H.t.1 (I.gX H.t.1 H.t.2 j0 (show j<_ by omega)).1.1 q)
theorem Ig{c:Int}(hs:(aq m u).2.1=1)(hc:c=2\/c=3) :
  eY (bJ m u ((aq m u).1,c,(aq m u).2.2)) n time own/\(∀h,bW m n h->bW (bJ m u ((aq m u).1,c,(aq m u).2.2)) n h)/\
  (∀p:Int,0<=p->p<20->fY (bJ m u ((aq m u).1,c,(aq m u).2.2)) p=if c=2/\wd m p=dM u (aq m u).1 then (jI (aq m u).2.2.1 p).2.2.1 else fY m p):=by
 have mu:=I.dw;have hd:∀t:Int,0<=t->aq (bJ m u ((aq m u).1,c,(aq m u).2.2)) t=if t=u then ((aq m u).1,c,(aq m u).2.2) else aq m t:=fun t t0=>n_ (by omega) t0
 have uh:∀t:Int,0<=t->(aq (bJ m u ((aq m u).1,c,(aq m u).2.2)) t).1=(aq m t).1:=by
  intro t t0;rw[hd t t0];split
  .next h=>rw[h]
  .rfl
 have U8:∀t:Int,0<=t->(aq (bJ m u ((aq m u).1,c,(aq m u).2.2)) t).2.2=(aq m t).2.2:=by
  intro t t0;rw[hd t t0];split
  .next h=>rw[h]
  .rfl
 have Ag:∀t:Int,0<=t->(aq (bJ m u ((aq m u).1,c,(aq m u).2.2)) t).2.1=if t=u then c else (aq m t).2.1:=by intro t t0;rw[hd t t0];split<;>rfl
 refine⟨⟨I.len,by rw[HD];exact I.dw,?_,?_,?_,?_,?_⟩,?_,?_⟩
 .intro t t0 t1;rw[hd t t0];have D:=I.dy t t0 t1;split
  .next h=>subst h;have hq:=I.Ju t0 t1 (by omega);exact⟨D.z7,D.len,D.dQ,D.seq,⟨fun e=>by dsimp only at e;omega,fun _=>by dsimp only;omega⟩,D.rl⟩
  .exact D
 .intro p p0 p1;rcases I.word p p0 p1 with h | ⟨v,a,b,c',d,i,e⟩
  .exact .inl h
  .refine .inr ⟨v,a,b,c',?_,i,?_⟩
   .rw[uh v a];exact d
   .rw[U8 v a];exact e
 .intro t t0 t1 e;rw[Ag t t0]at e;split at e
  .omega
  .exact I.jQ t t0 t1 e
 .intro t t0 t1 e;rw[uh t t0];exact I.kX t t0 t1 e
 .intro t t0 t1 e;rw[Ag t t0]at e;split at e
  .omega
  .rw[U8 t t0,uh t t0];exact I.pre t t0 t1 e
 .intro h H;have h0:=H.t.1;have oY:=H.seq;refine⟨H.t,by rw[uh _ h0];exact H.seq,H.r7,H.fin,fun e=>?_⟩;rw[uh _ h0]at e;obtain⟨a,b,x,y⟩:=H.cur e;rw[U8 _ h0,Ag _ h0];refine⟨a,b,fun hs'=>?_,fun hs'=>?_⟩
  .by_cases hu:h.1=u
   .rw[ak hu]at hs';omega
   .rw[af hu]at hs';exact x hs'
  .by_cases hu:h.1=u
   .have:=(x (by rw[hu];exact hs)).1;intro i i0 i1;omega
   .rw[af hu]at hs';exact y hs'
 .intro p p0 p1;rcases I.word p p0 p1 with h | ⟨v,a,b,c',d,i,i0,i1,e⟩
  .rw[af (fun q=>vA h.1 u0 q.2),vk (m:=m) h.1,vk (m:=bJ m u _) h.1];rfl
  .rw[zT (m:=m) a d,zT (m:=bJ m u _) a (by rw[uh v a];exact d),Ag v a,U8 v a];by_cases hv:v=u
   .subst hv;rw[ak rfl,hs,af (show ¬ (1:Int)=2 by decide)];by_cases c2:c=2
    .rw[ak c2,ak ⟨c2,d⟩]
    .rw[af c2,af (fun q=>c2 q.1)]
   .rw[af hv,af (show ¬ (c=2/\_) from fun q=>hv (tM (d.symm.trans q.2)).1)]
end
theorem akB{m:aU}{n:Nat}{time:Int}{own lY:Int->Prop}(I:eY m n time own){u:Int}(u0:0<=u)(u1:u<n)(hno:¬ own u)(ho:lY u)(LN:∀t:Int,0<=t->t≠u->(own t↔lY t)){E:List eB}{r:fC}
  (hE:lO E) (hl:E.length<=8) (hr:∀e∈E,(0<=e.1/\e.1<20)/\(0<=e.2.1/\e.2.1<=1000)/\(0<=e.2.2.1/\e.2.2.1<=1000)) (ht:(aq m u).1+1<=time) (hrl:r.2.1.length<=4) :
  eY (bJ m u ((aq m u).1+1,1,E,r,())) n time lY/\(∀h,bW m n h->bW (bJ m u ((aq m u).1+1,1,E,r,())) n h)/\
  (∀p:Int,0<=p->p<20->fY (bJ m u ((aq m u).1+1,1,E,r,())) p=fY m p):=by
 have mu:=I.dw;have hd:∀t:Int,0<=t->aq (bJ m u ((aq m u).1+1,1,E,r,())) t=if t=u then ((aq m u).1+1,1,E,r,()) else aq m t:=fun t t0=>n_ (by omega) t0
 have Ah:=(hd u u0).trans (ak rfl);have jf:∀t:Int,0<=t->t≠u->aq (bJ m u ((aq m u).1+1,1,E,r,())) t=aq m t:=fun t t0 h=>(hd t t0).trans (af h);have X0:=fun {p:Int} (p0:0<=p) (p1:p<20) (s:Int)=>RY I u0 hno p0 p1 s;have D:=I.dy u u0 u1;refine⟨⟨I.len,by rw[HD];exact I.dw,?_,?_,?_,?_,?_⟩,?_,?_⟩
 .intro t t0 t1;by_cases h:t=u
  .subst h;rw[Ah];have:=D.seq;exact⟨hE,hl,hr,⟨by dsimp only;omega,ht⟩,⟨fun e=>by dsimp only at e;omega,fun _=>by dsimp only;omega⟩,hrl⟩
  .rw[jf t t0 h];exact I.dy t t0 t1
 .intro p p0 p1;rcases I.word p p0 p1 with h | ⟨v,a,b,c',d,i,e⟩
  .exact .inl h
  .have hv:v≠u:=fun q=>hno (q ▸ c');refine .inr ⟨v,a,b,(LN v a hv).1 c',?_,i,?_⟩
   .rw[jf v a hv];exact d
   .rw[jf v a hv];exact e
 .intro t t0 t1 e;by_cases h:t=u
  .rw[h];exact ho
  .rw[jf t t0 h]at e;exact(LN t t0 h).1 (I.jQ t t0 t1 e)
 .intro t t0 t1 e;have:=D.seq;by_cases h:t=u
  .rw[h,Ah];dsimp only;omega
  .rw[jf t t0 h];exact I.kX t t0 t1 ((LN t t0 h).2 e)
 .intro t t0 t1 e i j i0 ij j1 hj;by_cases h:t=u
  .subst h;rw[Ah]at hj j1;dsimp only at hj j1;have:=hr _ (Mv (show 0<=j by omega) j1);exact absurd hj (X0 this.1.1 this.1.2 _)
  .rw[jf t t0 h]at e j1 hj⊢;exact I.pre t t0 t1 e i j i0 ij j1 hj
 .intro h H;have hs:=H.seq;by_cases hu:h.1=u
  .have hs':=H.seq;rw[hu]at hs';refine⟨H.t,by rw[hu,Ah];dsimp only;omega,H.r7,H.fin,fun e=>?_⟩;rw[hu,Ah]at e;dsimp only at e;omega
  .refine⟨H.t,by rw[jf _ H.t.1 hu];exact H.seq,H.r7,H.fin,?_⟩;rw[jf _ H.t.1 hu];exact H.cur
 .intro p p0 p1;rcases I.word p p0 p1 with h | ⟨v,a,b,c',d,i,e⟩
  .rw[vk (m:=m) h.1,vk (m:=bJ m u _) h.1];rfl
  .have hv:v≠u:=fun q=>hno (q ▸ c');rw[zT (m:=m) a d,zT (m:=bJ m u _) a (by rw[jf v a hv];exact d),jf v a hv]
def ay(l:List gi)(k:Int):gi:=l.getD k.toNat dC
def wA(l:List gi)(t:Int):Nat:=(l.filter fun c=>decide (c.1=t/\0<=c.2.2.2.2.1)).length
structure DO (c:gi) (n:Nat) (time:Int):Prop where
 t:0<=c.1/\c.1<n
 op:dh c.2.1=true
 start:0<=c.2.2.1/\c.2.2.1<=time
 qI:c.2.2.2.1 = -1\/c.2.2.1<=c.2.2.2.1/\c.2.2.2.1<=time
 fin:c.2.2.2.2.1 = -1\/0<=c.2.2.2.1/\c.2.2.2.1<=c.2.2.2.2.1/\c.2.2.2.2.1<=time
 len:c.2.2.2.2.2.1.2.1.length<=4
structure f7 (l:List gi) (t k:Int):Prop where
 dQ:0<=k/\k<l.length
 t:(ay l k).1=t
 fin:(ay l k).2.2.2.2.1 = -1
structure gn (l:List gi) (ord:List Int) (n:Nat) (time:Int) (on:Int->Bool) (pc:Int->Int) (op:Int->cL) (yes:Int->Option fC):Prop where
 c:∀k:Int,0<=k->k<l.length->DO (ay l k) n time
 before:∀j k:Int,0<=j->j<k->k<l.length->(ay l j).1=(ay l k).1->0<=(ay l j).2.2.2.2.1/\(ay l j).2.2.2.2.1<(ay l k).2.2.1
 cnt:∀t:Int,0<=t->t<n->(wA l t:Int)=pc t
 jQ:∀t:Int,0<=t->t<n->on t=true->∃k,f7 l t k/\(ay l k).2.1=op t
 off:∀t:Int,0<=t->t<n->on t=false->∀k:Int,0<=k->k<l.length->(ay l k).1=t->0<=(ay l k).2.2.2.2.1
 qI:∀t k:Int,0<=t->t<n->f7 l t k->(yes t=none->(ay l k).2.2.2.1 = -1)/\(∀r,yes t=some r->0<=(ay l k).2.2.2.1/\(ay l k).2.2.2.2.2.1=r)
 gM:∀k∈ord,0<=k/\k<l.length/\0<=(ay l k).2.2.2.1
 nodup:ord.Nodup
 sort:ord.Pairwise fun a b=>(ay l a).2.2.2.1<=(ay l b).2.2.2.1
 all:∀k:Int,0<=k->k<l.length->0<=(ay l k).2.2.2.1->k∈ord
theorem HK{l:List gi}{c:gi}{k:Int}(h:0<=k):ay (l++[c]) k=if k<l.length then ay l k else if k=l.length then c else dC:=by
 unfold ay;simp only[IA,List.getElem?_append];by_cases h1:k<l.length
 .rw[ak (by omega),ak h1]
 .rw[af (by omega),af h1];by_cases h2:k=l.length
  .rw[ak h2,show k.toNat-l.length=0 by omega];rfl
  .rw[af h2];have:k.toNat-l.length≠0:=by omega
   obtain⟨q,hq⟩:=Nat.exists_eq_succ_of_ne_zero this;rw[hq];rfl
theorem DE{l:List gi}{c:gi}{i k:Int}(hi:0<=i/\i<l.length)(h:0<=k):ay (l.set i.toNat c) k=if k=i then c else ay l k:=by
 unfold ay;rw[Mq];by_cases h1:k=i
 .subst h1;rw[ak ⟨rfl,by omega⟩,ak rfl]
 .rw[af (by omega),af h1]
theorem Rn(l:List gi)(c:gi)(t:Int):wA (l++[c]) t=wA l t+(if c.1=t/\0<=c.2.2.2.2.1 then 1 else 0):=by
 unfold wA;rw[List.filter_append,cV];by_cases h:c.1=t/\0<=c.2.2.2.2.1
 .rw[ak h];simp[h]
 .rw[af h,show List.filter (fun c=>decide (c.1=t/\0<=c.2.2.2.2.1)) [c]=[] by simp only[AK,List.filter_nil];rw[b_ h];rfl];rfl
theorem Ro(l:List gi)(c:gi)(t:Int):∀(i:Nat)(h:i<l.length),wA (l.set i c) t+(if l[i].1=t/\0<=l[i].2.2.2.2.1 then 1 else 0)=wA l t+(if c.1=t/\0<=c.2.2.2.2.1 then 1 else 0):=by
 induction l with
 | nil=>intro i h;simp at h
 | cons a l ih=>
  intro i h;have hc:∀(x:gi)(l:List gi),wA (x::l) t=(if x.1=t/\0<=x.2.2.2.2.1 then 1 else 0)+wA l t:=by
   intro x l;unfold wA;rw[AK];by_cases hx:x.1=t/\0<=x.2.2.2.2.1
   .rw[ak hx,bG hx,ak rfl,cw];omega
   .rw[af hx,b_ hx,af (by simp)];omega
  cases i with
  | zero=>simp only[BX,N3];rw[hc,hc];omega
  | succ i=>simp only[F9,Th];have:=ih i (by simpa using h);rw[hc,hc];omega
section
variable {l:List gi} {ord:List Int} {n:Nat} {time:Int} {on:Int->Bool} {pc:Int->Int} {op:Int->cL} {yes:Int->Option fC} (I:gn l ord n time on pc op yes)
include I
theorem gn.uniq{t i k:Int}(hi:f7 l t i)(hk:f7 l t k):i=k:=by
 rcases AN i k with h | h | h
 .have:=(I.before i k hi.dQ.1 h hk.dQ.2 (hi.t.trans hk.t.symm)).1;have:=hi.fin;omega
 .exact h
 .have:=(I.before k i hk.dQ.1 h hi.dQ.2 (hk.t.trans hi.t.symm)).1;have:=hk.fin;omega
theorem gn.tC{t k:Int}(hk:f7 l t k):∀j:Nat,j<=l.length->qX l t j=if k<j then k else -1
 | 0,_=>by rw[af (by have:=hk.dQ;omega)];rfl
 | j+1,hj=>by
  simp only[qX];by_cases h:(l.getD j dC).1=t/\(l.getD j dC).2.2.2.2.1<0
  .rw[ak h];have h1:=(I.c (j:Int) (by omega) (by omega)).fin;have e:ay l (j:Int)=l.getD j dC:=by unfold ay;rw[d5]
   rw[e]at h1;have:f7 l t (j:Int):=⟨⟨by omega,by omega⟩,by rw[e];exact h.1,by rw[e];omega⟩
   have:=I.uniq this hk;rw[ak (by omega)];exact this
  .rw[af h,gn.tC hk j (by omega)];by_cases h2:k<j
   .rw[ak h2,ak (by omega)]
   .rw[af h2,af];intro h3;have e:k=(j:Int):=by omega
    have h4:=hk.t;have h5:=hk.fin
    rw[e]at h4 h5;unfold ay at h4 h5;rw[d5]at h4 h5;exact h ⟨h4,by omega⟩
theorem gn.nr{t k:Int}(hk:f7 l t k):kI l t=k:=by unfold kI;rw[I.tC hk _ (ct _),ak hk.dQ.2]
theorem gn.same{on':Int->Bool}{JS:Int->Int}{op':Int->cL}{om:Int->Option fC}{time':Int}(ht:time<=time')
  (h:∀t:Int,0<=t->t<n->on' t=on t/\JS t=pc t/\op' t=op t/\om t=yes t):gn l ord n time' on' JS op' om where
 c:=fun k a b=>by
  have:=I.c k a b;exact⟨this.t,this.op,⟨this.start.1,by have:=this.start.2;omega⟩,this.qI.imp id fun q=>⟨q.1,by omega⟩,this.fin.imp id fun q=>⟨q.1,q.2.1,by omega⟩,this.len⟩
 before:=I.before
 cnt:=fun t a b=>by rw[(h t a b).2.1];exact I.cnt t a b
 jQ:=fun t a b e=>by rw[(h t a b).2.2.1];exact I.jQ t a b (by rw[<-(h t a b).1];exact e)
 off:=fun t a b e=>I.off t a b (by rw[<-(h t a b).1];exact e)
 qI:=fun t k a b hk=>by rw[(h t a b).2.2.2];exact I.qI t k a b hk
 gM:=I.gM
 nodup:=I.nodup
 sort:=I.sort
 all:=I.all
theorem gn.zp{u:Int}(u0:0<=u)(u1:u<n)(hoff:on u=false)(hop:dh (op u)=true)(hy:yes u=none){on':Int->Bool}(oG:on' u=true)(xj:∀t:Int,0<=t->t≠u->on' t=on t)(ht:0<=time) :
  gn (l++[(u,op u,time+1,-1,-1,(0,[],()),())]) ord n (time+1) on' pc op yes:=by
 have hlen:(l++[((u,op u,time+1,-1,-1,(0,[],()),()):gi)]).length=l.length+1:=by simp
 have hg:∀k:Int,0<=k->k<l.length->ay (l++[(u,op u,time+1,-1,-1,(0,[],()),())]) k=ay l k:=fun k a b=>by rw[HK a,ak b]
 have hn:ay (l++[(u,op u,time+1,-1,-1,(0,[],()),())]) l.length=(u,op u,time+1,-1,-1,(0,[],()),()):=by rw[HK (by omega),af (by omega),ak rfl]
 have hold:∀t k,f7 (l++[(u,op u,time+1,-1,-1,(0,[],()),())]) t k->(k<l.length/\f7 l t k)\/(k=l.length/\t=u):=by
  intro t k hk;have hk2:=hk.dQ;rw[hlen]at hk2;by_cases h:k<l.length
  .have h1:=hk.t;have h2:=hk.fin
   rw[hg k hk2.1 h]at h1 h2;exact .inl ⟨h,⟨hk2.1,h⟩,h1,h2⟩
  .have e:k=l.length:=by omega
   have h1:=hk.t;rw[e,hn]at h1;exact .inr ⟨e,h1.symm⟩
 refine⟨?_,?_,?_,?_,?_,?_,?_,I.nodup,?_,?_⟩
 .intro k a b;rw[hlen]at b;by_cases h:k<l.length
  .rw[hg k a h];have:=I.c k a h;exact⟨this.t,this.op,⟨this.start.1,by have:=this.start.2;omega⟩,this.qI.imp id fun q=>⟨q.1,by omega⟩,this.fin.imp id fun q=>⟨q.1,q.2.1,by omega⟩,this.len⟩
  .rw[show k=(l.length:Int) by omega,hn];exact⟨⟨u0,u1⟩,hop,⟨by dsimp only;omega,by dsimp only;omega⟩,.inl rfl,.inl rfl,by simp⟩
 .intro j k a b d e;rw[hlen]at d;have hj:=hg j a (by omega);by_cases h:k<l.length
  .have hk:=hg k (by omega) h;rw[hj,hk]at e;rw[hj,hk];exact I.before j k a b h e
  .have ek:k=(l.length:Int):=by omega
   rw[ek,hn,hj]at e;rw[ek,hn,hj];dsimp only at e⊢;have h1:=I.off u u0 u1 hoff j a (by omega) e;have h2:=(I.c j a (by omega)).fin;exact⟨by omega,by omega⟩
 .intro t a b;rw[Rn,af (fun q=>by have:=q.2;dsimp only at this;omega),qU];exact I.cnt t a b
 .intro t a b e;by_cases h:t=u
  .subst h;exact⟨l.length,⟨⟨by omega,by omega⟩,by rw[hn],by rw[hn]⟩,by rw[hn]⟩
  .rw[xj t a h]at e;obtain⟨k,hk,h2⟩:=I.jQ t a b e;exact⟨k,⟨⟨hk.dQ.1,by have:=hk.dQ.2;omega⟩,by rw[hg k hk.dQ.1 hk.dQ.2];exact hk.t,by rw[hg k hk.dQ.1 hk.dQ.2];exact hk.fin⟩,by rw[hg k hk.dQ.1 hk.dQ.2];exact h2⟩
 .intro t a b e k k0 k1 hk;have hne:t≠u:=fun q=>by rw[q,oG]at e;exact absurd e (by simp)
  rw[hlen]at k1;by_cases h:k<l.length
  .rw[hg k k0 h] at *;exact I.off t a b (by rw[<-xj t a hne];exact e) k k0 h hk
  .rw[show k=(l.length:Int) by omega,hn]at hk;exact absurd hk.symm hne
 .intro t k a b hk;rcases hold t k hk with⟨h,h2⟩ | ⟨rfl,rfl⟩
  .rw[hg k hk.dQ.1 h];exact I.qI t k a b h2
  .rw[hn,hy];exact⟨fun _=>rfl,fun r q=>(by cases q)⟩
 .intro k hk;have:=I.gM k hk;rw[hg k this.1 this.2.1];exact⟨this.1,by omega,this.2.2⟩
 .exact I.sort.imp_of_mem fun {a b} ha hb hab=>by
   have h1:=I.gM a ha;have h2:=I.gM b hb
   rw[hg a h1.1 h1.2.1,hg b h2.1 h2.2.1];exact hab
 .intro k a b e;rw[hlen]at b;by_cases h:k<l.length
  .rw[hg k a h]at e;exact I.all k a h e
  .rw[show k=(l.length:Int) by omega,hn]at e;dsimp only at e;omega
theorem gn.so{u k:Int}(u0:0<=u)(u1:u<n)(hk:f7 l u k)(hy:yes u=none){r:fC}(hr:r.2.1.length<=4){om:Int->Option fC}(h1:om u=some r)(h2:∀t:Int,0<=t->t≠u->om t=yes t) :
  gn (l.set k.toNat ((ay l k).1,(ay l k).2.1,(ay l k).2.2.1,time,(ay l k).2.2.2.2.1,r,())) (ord++[k]) n time on pc op om:=by
 have k0:=hk.dQ.1;have k1:=hk.dQ.2;have Am:(ay l k).2.2.2.1 = -1:=(I.qI u k u0 u1 hk).1 hy;have kO:=hk.fin;have hc:=I.c k k0 k1;have hst:=hc.start;have hg:∀j:Int,0<=j->ay (l.set k.toNat ((ay l k).1,(ay l k).2.1,(ay l k).2.2.1,time,(ay l k).2.2.2.2.1,r,())) j=if j=k then ((ay l k).1,(ay l k).2.1,(ay l k).2.2.1,time,(ay l k).2.2.2.2.1,r,()) else ay l j:=fun j hj=>DE hk.dQ hj
 have g1:∀j:Int,0<=j->(ay (l.set k.toNat ((ay l k).1,(ay l k).2.1,(ay l k).2.2.1,time,(ay l k).2.2.2.2.1,r,())) j).1=(ay l j).1:=fun j hj=>by rw[hg j hj];split<;>simp_all
 have g2:∀j:Int,0<=j->(ay (l.set k.toNat ((ay l k).1,(ay l k).2.1,(ay l k).2.2.1,time,(ay l k).2.2.2.2.1,r,())) j).2.1=(ay l j).2.1:=fun j hj=>by rw[hg j hj];split<;>simp_all
 have g3:∀j:Int,0<=j->(ay (l.set k.toNat ((ay l k).1,(ay l k).2.1,(ay l k).2.2.1,time,(ay l k).2.2.2.2.1,r,())) j).2.2.1=(ay l j).2.2.1:=fun j hj=>by rw[hg j hj];split<;>simp_all
 have g5:∀j:Int,0<=j->(ay (l.set k.toNat ((ay l k).1,(ay l k).2.1,(ay l k).2.2.1,time,(ay l k).2.2.2.2.1,r,())) j).2.2.2.2.1=(ay l j).2.2.2.2.1:=fun j hj=>by rw[hg j hj];split<;>simp_all
 have gk:=(hg k k0).trans (ak rfl);have go:∀j:Int,0<=j->j≠k->ay (l.set k.toNat ((ay l k).1,(ay l k).2.1,(ay l k).2.2.1,time,(ay l k).2.2.2.2.1,r,())) j=ay l j:=fun j hj oE=>(hg j hj).trans (af oE);have hkn:k∉ord:=fun q=>by have:=(I.gM k q).2.2;omega
 have tq:∀t j,f7 (l.set k.toNat ((ay l k).1,(ay l k).2.1,(ay l k).2.2.1,time,(ay l k).2.2.2.2.1,r,())) t j↔f7 l t j:=by
  intro t j;constructor
  .intro h;have hj:=h.dQ.1;exact⟨by simpa using h.dQ,by rw[<-g1 j hj];exact h.t,by rw[<-g5 j hj];exact h.fin⟩
  .intro h;have hj:=h.dQ.1;exact⟨by simpa using h.dQ,by rw[g1 j hj];exact h.t,by rw[g5 j hj];exact h.fin⟩
 refine⟨?_,?_,?_,?_,?_,?_,?_,?_,?_,?_⟩
 .intro j a b;rw[b9]at b;by_cases h:j=k
  .rw[h,gk];exact⟨hc.t,hc.op,hc.start,.inr ⟨hst.2,fh _⟩,.inl kO,hr⟩
  .rw[go j a h];exact I.c j a b
 .intro i j a b d e;rw[b9]at d;rw[g5 i a,g3 j (by omega)];exact I.before i j a b d (by rw[<-g1 i a,<-g1 j (by omega)];exact e)
 .intro t a b;have:=Ro l ((ay l k).1,(ay l k).2.1,(ay l k).2.2.1,time,(ay l k).2.2.2.2.1,r,()) t k.toNat (by omega)
  have e:l[k.toNat]'(by omega)=ay l k:=by unfold ay;rw[qv]
  rw[e]at this;dsimp only at this;rw[<-I.cnt t a b];omega
 .intro t a b e;obtain⟨j,hj,h3⟩:=I.jQ t a b e;exact⟨j,(tq t j).2 hj,by rw[g2 j hj.dQ.1];exact h3⟩
 .intro t a b e j j0 j1 hj;rw[b9]at j1;rw[g5 j j0];exact I.off t a b e j j0 j1 (by rw[<-g1 j j0];exact hj)
 .intro t j a b hj;have hj':=(tq t j).1 hj;by_cases h:t=u
  .subst h;have e:=I.uniq hj' hk;subst e;rw[gk,h1];refine⟨fun q=>(by cases q),fun r' q=>?_⟩;cases q;exact⟨by dsimp only;omega,rfl⟩
  .have hne:j≠k:=fun q=>h (by rw[<-hj'.t,q,hk.t]);rw[go j hj'.dQ.1 hne,h2 t a h];exact I.qI t j a b hj'
 .intro j hj;rw[b9];rcases bN.1 hj with h | h
  .have hj':=I.gM j h;rw[go j hj'.1 (fun q=>hkn (q ▸ h))];exact hj'
  .rw[d9]at h;subst h;rw[gk];exact⟨k0,k1,by dsimp only;omega⟩
 .rw[IQ];exact⟨I.nodup,by simp,fun a ha b hb=>by rw[d9]at hb;rw[hb];exact fun q=>hkn (q ▸ ha)⟩
 .rw[MB];refine⟨I.sort.imp_of_mem fun {a b} ha hb hab=>?_,by simp,fun a ha b hb=>?_⟩
  .rw[go a (I.gM a ha).1 (fun q=>hkn (q ▸ ha)),go b (I.gM b hb).1 (fun q=>hkn (q ▸ hb))];exact hab
  .rw[d9]at hb;subst hb;have vR:=I.gM a ha;rw[go a vR.1 (fun q=>hkn (q ▸ ha)),gk];have:=(I.c a vR.1 vR.2.1).qI;dsimp only;omega
 .intro j a b e;rw[b9]at b;by_cases h:j=k
  .rw[h];exact List.mem_append_right _ e8
  .rw[go j a h]at e;exact AL _ (I.all j a b e)
theorem gn.fin{u k:Int}(u0:0<=u)(u1:u<n)(hk:f7 l u k){r:fC}(hy:yes u=some r){on':Int->Bool}{JS:Int->Int}{om:Int->Option fC}(oG:on' u=false)(xj:∀t:Int,0<=t->t≠u->on' t=on t)
  (Ar:JS u=pc u+1) (X4:∀t:Int,0<=t->t≠u->JS t=pc t) {op':Int->cL} (Ev:∀t:Int,0<=t->t≠u->op' t=op t) (h2:∀t:Int,0<=t->t≠u->om t=yes t) :
  gn (l.set k.toNat ((ay l k).1,(ay l k).2.1,(ay l k).2.2.1,(ay l k).2.2.2.1,time,r,())) ord n time on' JS op' om:=by
 have k0:=hk.dQ.1;have k1:=hk.dQ.2;obtain⟨Am,hres⟩:=(I.qI u k u0 u1 hk).2 r hy;have kO:=hk.fin;have hc:=I.c k k0 k1;have hst:=hc.start;have jO:=hc.qI;have hg:∀j:Int,0<=j->ay (l.set k.toNat ((ay l k).1,(ay l k).2.1,(ay l k).2.2.1,(ay l k).2.2.2.1,time,r,())) j=if j=k then ((ay l k).1,(ay l k).2.1,(ay l k).2.2.1,(ay l k).2.2.2.1,time,r,()) else ay l j:=fun j hj=>DE hk.dQ hj
 have g1:∀j:Int,0<=j->(ay (l.set k.toNat ((ay l k).1,(ay l k).2.1,(ay l k).2.2.1,(ay l k).2.2.2.1,time,r,())) j).1=(ay l j).1:=fun j hj=>by rw[hg j hj];split<;>simp_all
 have g2:∀j:Int,0<=j->(ay (l.set k.toNat ((ay l k).1,(ay l k).2.1,(ay l k).2.2.1,(ay l k).2.2.2.1,time,r,())) j).2.1=(ay l j).2.1:=fun j hj=>by rw[hg j hj];split<;>simp_all
 have g3:∀j:Int,0<=j->(ay (l.set k.toNat ((ay l k).1,(ay l k).2.1,(ay l k).2.2.1,(ay l k).2.2.2.1,time,r,())) j).2.2.1=(ay l j).2.2.1:=fun j hj=>by rw[hg j hj];split<;>simp_all
 have g4:∀j:Int,0<=j->(ay (l.set k.toNat ((ay l k).1,(ay l k).2.1,(ay l k).2.2.1,(ay l k).2.2.2.1,time,r,())) j).2.2.2.1=(ay l j).2.2.2.1:=fun j hj=>by rw[hg j hj];split<;>simp_all
 have gk:=(hg k k0).trans (ak rfl);have go:∀j:Int,0<=j->j≠k->ay (l.set k.toNat ((ay l k).1,(ay l k).2.1,(ay l k).2.2.1,(ay l k).2.2.2.1,time,r,())) j=ay l j:=fun j hj oE=>(hg j hj).trans (af oE);have tq:∀t j,f7 (l.set k.toNat ((ay l k).1,(ay l k).2.1,(ay l k).2.2.1,(ay l k).2.2.2.1,time,r,())) t j->j≠k/\f7 l t j:=by
  intro t j h;have hj:=h.dQ.1;have hne:j≠k:=fun q=>by have:=h.fin;rw[q,gk]at this;dsimp only at this;omega
  have h1:=h.t;have h3:=h.fin
  rw[go j hj hne]at h1 h3;exact⟨hne,by simpa using h.dQ,h1,h3⟩
 refine⟨?_,?_,?_,?_,?_,?_,?_,I.nodup,?_,?_⟩
 .intro j a b;rw[b9]at b;by_cases h:j=k
  .rw[h,gk];have:=hc.len;rw[hres]at this;exact⟨hc.t,hc.op,hc.start,hc.qI,.inr ⟨Am,by dsimp only;omega,fh _⟩,this⟩
  .rw[go j a h];exact I.c j a b
 .intro i j a b d e;rw[b9]at d;rw[g1 i a,g1 j (by omega)]at e;rw[g3 j (by omega)];by_cases h:i=k
  .subst h;have:=(I.before i j a b d e).1;omega
  .rw[go i a h];exact I.before i j a b d e
 .intro t a b;have:=Ro l ((ay l k).1,(ay l k).2.1,(ay l k).2.2.1,(ay l k).2.2.2.1,time,r,()) t k.toNat (by omega)
  have e:l[k.toNat]'(by omega)=ay l k:=by unfold ay;rw[qv]
  have hA:¬ ((ay l k).1=t/\0<=(ay l k).2.2.2.2.1):=fun q=>by have:=q.2;omega
  rw[e,af hA]at this;dsimp only at this;have C5:0<=time:=by omega
  have hcn:=I.cnt t a b;by_cases h:t=u
  .subst h;rw[ak ⟨hk.t,C5⟩]at this;rw[Ar];omega
  .have hB:¬ ((ay l k).1=t/\0<=time):=fun q=>h (q.1.symm.trans hk.t);rw[af hB]at this;rw[X4 t a h];omega
 .intro t a b e;have hne:t≠u:=fun q=>by rw[q,oG]at e;exact absurd e (by simp)
  rw[xj t a hne]at e;obtain⟨j,hj,h3⟩:=I.jQ t a b e;have oE:j≠k:=fun q=>hne (by rw[<-hj.t,q,hk.t]);exact⟨j,⟨by simpa using hj.dQ,by rw[go j hj.dQ.1 oE];exact hj.t,by rw[go j hj.dQ.1 oE];exact hj.fin⟩,by rw[go j hj.dQ.1 oE,Ev t a hne];exact h3⟩
 .intro t a b e j j0 j1 hj;rw[b9]at j1;rw[g1 j j0]at hj;by_cases h:j=k
  .rw[h,gk];dsimp only;omega
  .rw[go j j0 h];by_cases hu:t=u
   .subst hu;have hn:=hc;rcases(I.c j j0 j1).fin with q | q
    .exact absurd (I.uniq ⟨⟨j0,j1⟩,hj,q⟩ hk) h
    .omega
   .exact I.off t a b (by rw[<-xj t a hu];exact e) j j0 j1 hj
 .intro t j a b hj;obtain⟨hne,hj'⟩:=tq t j hj;have hu:t≠u:=fun q=>hne (I.uniq (q ▸ hj') hk);rw[go j hj'.dQ.1 hne,h2 t a hu];exact I.qI t j a b hj'
 .intro j hj;rw[b9];have hj':=I.gM j hj;rw[g4 j hj'.1];exact hj'
 .exact I.sort.imp_of_mem fun {a b} ha hb hab=>by
   rw[g4 a (I.gM a ha).1,g4 b (I.gM b hb).1];exact hab
 .intro j a b e;rw[b9]at b;rw[g4 j a]at e;exact I.all j a b e
end
inductive iH (l:List gi):qp->List Int->qp->Prop
 | nil (r:qp):iH l r [] r
 | snoc {r s:qp} {ks:List Int} {k:Int}:iH l r ks s->aS s->Out s (ay l k).2.1 (ay l k).2.2.2.2.2.1.1 (ay l k).2.2.2.2.2.1.2.1->iH l r (ks++[k]) (jh s (ay l k).2.1 (ay l k).2.2.2.2.2.1.1)
theorem iH.same{l l':List gi}{r:qp}{ks:List Int}{s:qp}(h:iH l r ks s):(∀k∈ks,(ay l' k).2.1=(ay l k).2.1/\(ay l' k).2.2.2.2.2.1=(ay l k).2.2.2.2.2.1)->iH l' r ks s:=by
 induction h with
 | nil=>intro _;exact .nil _
 | @snoc s ks k _ hs ho ih=>intro hl;have h1:=hl k (by simp);have:=iH.snoc (l:=l') (k:=k) (ih fun j hj=>hl j (AL _ hj)) hs (by rw[h1.1,h1.2];exact ho);rw[h1.1,h1.2]at this;exact this
structure jt (m:aU) (n:Nat) (x:cN) (t:Int):Prop where
 ops:x.1.length<=4/\∀o∈x.1,dh o=true
 pc:0<=x.2.1/\x.2.1<=x.1.length
 on:x.2.2.1=true->x.2.1<x.1.length
 off:x.2.2.1=false->x.2.2.2.1=[]/\x.2.2.2.2.1=[]
 got:sA x.2.2.2.1
 st:x.2.2.2.2.1=[]\/(∃h,x.2.2.2.2.1=[h])\/∃h h',x.2.2.2.2.1=[h,h']/\h.1=t
 d7:∀h∈x.2.2.2.2.1,bW m n h
 own:∀h∈x.2.2.2.2.1,h.1=t->h.2.1=(aq m t).1
 along:x.2.2.1=true->qO x.2.2.2.1 (aW x)
 read:x.2.2.1=true->bD x t=false->∃q B,path (dJ x.2.2.2.1) (prog (aW x))=g7 x.2.2.2.1++q::B
 plan:bD x t=true->path (dJ x.2.2.2.1) (prog (aW x))=g7 x.2.2.2.1/\mM (aW x) x.2.2.2.1=none/\(aq m t).2.2.1=dI (aW x) x.2.2.2.1/\(aq m t).2.2.2.1=eF (aW x) x.2.2.2.1
def bx(m:aH)(t:Int):Prop:=bD (ai m t) t=true
def m4(m:aH)(t:Int):Option fC:=if bD (ai m t) t=true/\(aq m.1 t).2.1=2 then some (aq m.1 t).2.2.2.1 else none
structure Inv (m:aH):Prop where
 n:1<=m.2.1.length/\m.2.1.length<=3
 time:0<=m.2.2.1
 mem:eY m.1 m.2.1.length m.2.2.1 (bx m)
 th:∀t:Int,0<=t->t<m.2.1.length->jt m.1 m.2.1.length (ai m t) t
 call:gn m.2.2.2.1 m.2.2.2.2.1 m.2.1.length m.2.2.1 (fun t=>(ai m t).2.2.1) (fun t=>(ai m t).2.1) (fun t=>aW (ai m t)) (m4 m)
 rep:∃R,aS R/\iH m.2.2.2.1 m.2.2.2.2.2.1 m.2.2.2.2.1 R/\∀p:Int,0<=p->p<20->fY m.1 p=cg R p
 first:aS m.2.2.2.2.2.1
theorem HP(x:cN)(t:Int):bD x t=true↔∃h r,x.2.2.2.2.1=h::r/\h.1=t:=by
 unfold bD;cases x.2.2.2.2.1 with
 | nil=>simp
 | cons h r=>simp
theorem zU{x:cN}{t:Int}(h:x.2.2.2.2.1=[]):bD x t=false:=by unfold bD;rw[h]
theorem jt.Au{m:aU}{n:Nat}{x:cN}{t:Int}(h:jt m n x t)(hs:x.2.2.2.2.1≠[]):x.2.2.1=true:=by
 cases ho:x.2.2.1 with
 | true=>rfl
 | false=>exact absurd (h.off ho).2 hs
theorem jt.nt{m:aU}{n:Nat}{x:cN}{t:Int}(h:jt m n x t)(hs:bD x t=true):x.2.2.1=true:=by refine h.Au fun e=>?_;rw[zU e]at hs;cases hs
theorem jt.op{m:aU}{n:Nat}{x:cN}{t:Int}(h:jt m n x t)(ho:x.2.2.1=true):dh (aW x)=true:=by have h1:=h.on ho;have h2:=h.pc;unfold aW;rw[qv (show x.2.1.toNat<x.1.length by omega)];exact h.ops.2 _ (d_ _)
theorem jt.move{m m':aU}{n:Nat}{x:cN}{t:Int}(h:jt m n x t)(hh:∀k,bW m n k->bW m' n k)(h1:(aq m' t).1=(aq m t).1)(h2:(aq m' t).2.2=(aq m t).2.2):jt m' n x t where
 ops:=h.ops
 pc:=h.pc
 on:=h.on
 off:=h.off
 got:=h.got
 st:=h.st
 d7:=fun k hk=>hh k (h.d7 k hk)
 own:=fun k e1 e2=>by rw[h1];exact h.own k e1 e2
 along:=h.along
 read:=h.read
 plan:=fun e=>by rw[h2];exact h.plan e
theorem mK{x:cN}(h:x.2.2.2.2.1≠[]):au x∈x.2.2.2.2.1:=by have hl:0<x.2.2.2.2.1.length:=pH.2 h;unfold au;rw[qv (by omega)];exact d_ _
theorem AZ{m:aU}{n:Nat}{x:cN}{t:Int}(h:jt m n x t)(hs:x.2.2.2.2.1≠[]) :
  (x.2.2.2.2.1=[au x])\/∃h0,x.2.2.2.2.1=[h0,au x]/\h0.1=t:=by
 rcases h.st with e | ⟨k,e⟩ | ⟨k,k',e,h1⟩
 .exact absurd e hs
 .left;have:au x=k:=by unfold au;rw[e];rfl
  rw[this,e]
 .right;have:au x=k':=by unfold au;rw[e];rfl
  rw[this];exact⟨k,e,h1⟩
theorem J9{m:aU}{n:Nat}{x:cN}{t:Int}(h:jt m n x t)(hs:x.2.2.2.2.1≠[])(ht:(au x).1=t):bD x t=true/\(au x).2.1=(aq m t).1:=by
 refine⟨?_,h.own _ (mK hs) ht⟩;rcases AZ h hs with e | ⟨h0,e,a⟩
 .exact(HP x t).2 ⟨_,_,e,ht⟩
 .exact(HP x t).2 ⟨_,_,e,a⟩
def i_(x:cN)(s:List gx):cN:=(x.1,x.2.1,x.2.2.1,x.2.2.2.1,s,())
theorem jt.i_{m:aU}{n:Nat}{x:cN}{t:Int}(h:jt m n x t)(ho:x.2.2.1=true){s:List gx}(hst:s=[]\/(∃h,s=[h])\/∃h h',s=[h,h']/\h.1=t)(hh:∀k∈s,bW m n k)(hw:∀k∈s,k.1=t->k.2.1=(aq m t).1)
  (hb:bD (i_ x s) t=bD x t):jt m n (i_ x s) t where
 ops:=h.ops
 pc:=h.pc
 on:=h.on
 off:=fun e=>by rw[show(Go.G.i_ x s).2.2.1=x.2.2.1 from rfl,ho]at e;cases e
 got:=h.got
 st:=hst
 d7:=hh
 own:=hw
 along:=h.along
 read:=fun e1 e2=>h.read e1 (by rw[<-hb];exact e2)
 plan:=fun e=>h.plan (by rw[<-hb];exact e)
theorem Bt{m:aH}(I:Inv m){t:Int}(t0:0<=t)(t1:t<m.2.1.length){a:aU}{x:cN}(hM:eY a m.2.1.length m.2.2.1 (bx (cB (cI m a) t x)))
  (zD:∀u:Int,0<=u->u<m.2.1.length->u≠t->(aq a u).1=(aq m.1 u).1/\(aq a u).2.2=(aq m.1 u).2.2) (hh:∀k,bW m.1 m.2.1.length k->bW a m.2.1.length k)
  (hx:jt a m.2.1.length x t) (hsame:x.1=(ai m t).1/\x.2.1=(ai m t).2.1/\x.2.2.1=(ai m t).2.2.1)
  (hyes:∀u:Int,0<=u->u<m.2.1.length->m4 (cB (cI m a) t x) u=m4 m u) (hv:∀p:Int,0<=p->p<20->fY a p=fY m.1 p):Inv (cB (cI m a) t x):=by
 have hl:(cB (cI m a) t x).2.1.length=m.2.1.length:=o7 _ _ _;have fK:∀u:Int,0<=u->ai (cB (cI m a) t x) u=if u=t then x else ai m u:=fun u hu=>qW (m:=cI m a) ⟨t0,t1⟩ hu
 refine⟨by rw[hl];exact I.n,I.time,by rw[hl];exact hM,?_,?_,?_,I.first⟩
 .intro u u0 u1;rw[hl]at u1⊢;rw[fK u u0];by_cases h:u=t
  .subst h;rw[ak rfl];exact hx
  .rw[af h];exact(I.th u u0 u1).move hh (zD u u0 u1 h).1 (zD u u0 u1 h).2
 .rw[hl];refine I.call.same (fh _) fun u u0 u1=>?_;have e:(ai (cB (cI m a) t x) u).1=(ai m u).1/\(ai (cB (cI m a) t x) u).2.1=(ai m u).2.1/\(ai (cB (cI m a) t x) u).2.2.1=(ai m u).2.2.1:=by
   rw[fK u u0];by_cases h:u=t
   .subst h;rw[ak rfl];exact hsame
   .rw[af h];exact⟨rfl,rfl,rfl⟩
  exact⟨e.2.2,e.2.1,by unfold aW;rw[e.1,e.2.1],hyes u u0 u1⟩
 .obtain⟨R,h1,h2,h3⟩:=I.rep;exact⟨R,h1,h2,fun p p0 p1=>(hv p p0 p1).trans (h3 p p0 p1)⟩
theorem M9{m:aH}{a:aU}{t u:Int}{x:cN}(t0:0<=t)(t1:t<m.2.1.length)(u0:0<=u)(hb:bD x t=bD (ai m t) t)(h1:(aq a u).2.1=2↔(aq m.1 u).2.1=2)(h2:(aq a u).2.2=(aq m.1 u).2.2) :
  m4 (cB (cI m a) t x) u=m4 m u:=by
 have e:bD (ai (cB (cI m a) t x) u) u=bD (ai m u) u:=by
  rw[qW (m:=cI m a) ⟨t0,t1⟩ u0];by_cases h:u=t
  .subst h;rw[ak rfl];exact hb
  .rw[af h];rfl
 unfold m4;rw[e,show(cB (cI m a) t x).1=a from rfl,h2];by_cases h:bD (ai m u) u=true/\(aq m.1 u).2.1=2
 .rw[ak h,ak ⟨h.1,h1.2 h.2⟩]
 .rw[af h,af fun q=>h ⟨q.1,h1.1 q.2⟩]
theorem SS{m:aH}{a:aU}{t:Int}{x:cN}(t0:0<=t)(t1:t<m.2.1.length)(hb:bD x t=bD (ai m t) t)(u:Int)(u0:0<=u):bx m u↔bx (cB (cI m a) t x) u:=by
 unfold bx;rw[qW (m:=cI m a) ⟨t0,t1⟩ u0];by_cases h:u=t
 .subst h;rw[ak rfl,hb]
 .rw[af h];exact i6
theorem zY{m:aH}(I:Inv m){t:Int}(t0:0<=t)(t1:t<m.2.1.length)(ho:(ai m t).2.2.1=true){a:aU}{s:List gx}(hM:eY a m.2.1.length m.2.2.1 (bx m))
  (zD:∀u:Int,0<=u->u<m.2.1.length->(aq a u).1=(aq m.1 u).1/\(aq a u).2.2=(aq m.1 u).2.2/\((aq a u).2.1=2↔(aq m.1 u).2.1=2)) (hh:∀k,bW m.1 m.2.1.length k->bW a m.2.1.length k)
  (hst:s=[]\/(∃h,s=[h])\/∃h h',s=[h,h']/\h.1=t) (hhs:∀k∈s,bW a m.2.1.length k) (hw:∀k∈s,k.1=t->k.2.1=(aq m.1 t).1) (hb:bD (i_ (ai m t) s) t=bD (ai m t) t)
  (hv:∀p:Int,0<=p->p<20->fY a p=fY m.1 p):Inv (cB (cI m a) t (i_ (ai m t) s)):=by
 refine Bt I t0 t1 ?_ (fun u u0 u1 _=>⟨(zD u u0 u1).1,(zD u u0 u1).2.1⟩) hh ?_ ⟨rfl,rfl,rfl⟩ (fun u u0 u1=>M9 t0 t1 u0 hb (zD u u0 u1).2.2 (zD u u0 u1).2.1) hv
 .exact hM.kW fun u u0 _=>SS t0 t1 hb u u0
 .have:=(I.th t t0 t1).move hh (zD t t0 t1).1 (zD t t0 t1).2.1;exact this.i_ ho hst hhs (fun k hk e=>by rw[(zD t t0 t1).1];exact hw k hk e) hb
theorem NW{m a:aU}{n:Nat}{x:cN}{t:Int}(h:jt m n x t)(hs:x.2.2.2.2.1≠[])(hh:∀k,bW m n k->bW a n k){h':gx}(he:bW a n h')(hw:h'.1=t->h'.2.1=(aq m t).1)(hown:bD x t=false->h'.1≠t)
  (LP:∀k,x.2.2.2.2.1=[k]->k.1=t->h'.1=t) :
  (x.2.2.2.2.1.set (x.2.2.2.2.1.length-1) h'=[]\/(∃k,x.2.2.2.2.1.set (x.2.2.2.2.1.length-1) h'=[k])\/∃k k',x.2.2.2.2.1.set (x.2.2.2.2.1.length-1) h'=[k,k']/\k.1=t)/\
  (∀k∈x.2.2.2.2.1.set (x.2.2.2.2.1.length-1) h',bW a n k)/\(∀k∈x.2.2.2.2.1.set (x.2.2.2.2.1.length-1) h',k.1=t->k.2.1=(aq m t).1)/\
  bD (i_ x (x.2.2.2.2.1.set (x.2.2.2.2.1.length-1) h')) t=bD x t:=by
 rcases AZ h hs with e | ⟨h0,e,e0⟩
 .have e2:x.2.2.2.2.1.set (x.2.2.2.2.1.length-1) h'=[h']:=by rw[e];rfl
  rw[e2];refine⟨.inr (.inl ⟨_,rfl⟩),fun k hk=>?_,fun k hk=>?_,?_⟩
  .rw[d9]at hk;rw[hk];exact he
  .rw[d9]at hk;rw[hk];exact hw
  .have b1:bD x t=decide ((au x).1=t):=by unfold bD;rw[e]
   have b2:bD (i_ x [h']) t=decide (h'.1=t):=rfl;rw[b2];by_cases q:(au x).1=t
   .rw[b1,bG q,bG (LP _ e q)]
   .rw[b1,b_ q]at hown⊢;exact b_ (hown rfl)
 .have e2:x.2.2.2.2.1.set (x.2.2.2.2.1.length-1) h'=[h0,h']:=by rw[e];rfl
  rw[e2];have hm0:h0∈x.2.2.2.2.1:=by rw[e];exact e8
  refine⟨.inr (.inr ⟨_,_,rfl,e0⟩),fun k hk=>?_,fun k hk=>?_,?_⟩
  .rcases bk.1 hk with rfl | hk
   .exact hh _ (h.d7 _ hm0)
   .rw[d9]at hk;rw[hk];exact he
  .rcases bk.1 hk with rfl | hk
   .exact h.own _ hm0
   .rw[d9]at hk;rw[hk];exact hw
  .have b2:bD (i_ x [h0,h']) t=decide (h0.1=t):=rfl;have b1:bD x t=decide (h0.1=t):=by unfold bD;rw[e]
   rw[b1,b2]
theorem Oc{m:aU}{n:Nat}{x:cN}{t:Int}(h:jt m n x t)(hs:x.2.2.2.2.1≠[])(hne:(au x).1≠t) :
  (x.2.2.2.2.1.take (x.2.2.2.2.1.length-1)=[]\/(∃k,x.2.2.2.2.1.take (x.2.2.2.2.1.length-1)=[k])\/∃k k',x.2.2.2.2.1.take (x.2.2.2.2.1.length-1)=[k,k']/\k.1=t)/\
  (∀k∈x.2.2.2.2.1.take (x.2.2.2.2.1.length-1),bW m n k)/\(∀k∈x.2.2.2.2.1.take (x.2.2.2.2.1.length-1),k.1=t->k.2.1=(aq m t).1)/\
  bD (i_ x (x.2.2.2.2.1.take (x.2.2.2.2.1.length-1))) t=bD x t:=by
 have hsub:∀k∈x.2.2.2.2.1.take (x.2.2.2.2.1.length-1),k∈x.2.2.2.2.1:=fun k hk=>List.mem_of_mem_take hk;refine⟨?_,fun k hk=>h.d7 k (hsub k hk),fun k hk=>h.own k (hsub k hk),?_⟩
 .rcases AZ h hs with e | ⟨h0,e,e0⟩
  .left;rw[e];rfl
  .right;left;exact⟨h0,by rw[e];rfl⟩
 .rcases AZ h hs with e | ⟨h0,e,e0⟩
  .have b1:bD x t=decide ((au x).1=t):=by unfold bD;rw[e]
   have e2:x.2.2.2.2.1.take (x.2.2.2.2.1.length-1)=[]:=by rw[e];rfl
   rw[e2,b1,b_ hne];rfl
  .have e2:x.2.2.2.2.1.take (x.2.2.2.2.1.length-1)=[h0]:=by rw[e];rfl
   have b1:bD x t=decide (h0.1=t):=by unfold bD;rw[e]
   rw[e2,b1];rfl
theorem Nh{m:aU}{n:Nat}{x:cN}{t:Int}(h:jt m n x t){h':gx}(he:bW m n h')(hne:h'.1≠t)(hs:x.2.2.2.2.1=[]\/∃k,x.2.2.2.2.1=[k]/\k.1=t) :
  (x.2.2.2.2.1++[h']=[]\/(∃k,x.2.2.2.2.1++[h']=[k])\/∃k k',x.2.2.2.2.1++[h']=[k,k']/\k.1=t)/\
  (∀k∈x.2.2.2.2.1++[h'],bW m n k)/\(∀k∈x.2.2.2.2.1++[h'],k.1=t->k.2.1=(aq m t).1)/\bD (i_ x (x.2.2.2.2.1++[h'])) t=bD x t:=by
 refine⟨?_,fun k hk=>?_,fun k hk Er=>?_,?_⟩
 .rcases hs with e | ⟨k,e,ek⟩
  .right;left;exact⟨h',by rw[e];rfl⟩
  .right;right;exact⟨k,h',by rw[e];rfl,ek⟩
 .rcases bN.1 hk with q | q
  .exact h.d7 k q
  .rw[d9]at q;rw[q];exact he
 .rcases bN.1 hk with q | q
  .exact h.own k q Er
  .rw[d9]at q;rw[q]at Er;exact absurd Er hne
 .rcases hs with e | ⟨k,e,ek⟩
  .rw[e,gA,zU e];show decide (h'.1=t)=false;exact b_ hne
  .have b1:bD x t=decide (k.1=t):=by unfold bD;rw[e]
   rw[b1,e];rfl
theorem Sb{m:aH}{t:Int}(t0:0<=t)(t1:t<m.2.1.length):cB m t (ai m t)=m:=by
 have h:m.2.1.set t.toNat (ai m t)=m.2.1:=by unfold ai;rw[qv (show t.toNat<m.2.1.length by omega)];exact Z7 _
 unfold cB;rw[h]
theorem M3{m:aU}{n:Nat}{x:cN}{t:Int}(h:jt m n x t)(hs:x.2.2.2.2.1≠[]):ko x (au x)=x:=by
 have hl:0<x.2.2.2.2.1.length:=pH.2 hs;have e:x.2.2.2.2.1.set (x.2.2.2.2.1.length-1) (au x)=x.2.2.2.2.1:=by unfold au;rw[qv (by omega)];exact Z7 _
 unfold ko;rw[e]
theorem RO{m:aU}{n:Nat}{time:Int}{own lY:Int->Prop}(I:eY m n time own){t:Int}(t0:0<=t)(t1:t<n)(hs:(aq m t).2.1≠1)(hc:∀i:Int,0<=i->i<(aq m t).2.2.1.length->wd m (qi (aq m t).2.2.1 i).1≠dM t (aq m t).1)
  (ho:∀u:Int,0<=u->u≠t->(own u↔lY u)) (hn:¬ lY t):eY m n time lY where
 len:=I.len
 dw:=I.dw
 dy:=I.dy
 word:=fun p p0 p1=>by
  rcases I.word p p0 p1 with h | ⟨u,a,b,c,d,i,i0,i1,e⟩
  .exact .inl h
  .have hu:u≠t:=by rintro rfl;exact hc i i0 i1 (by rw[e];exact d)
   exact .inr ⟨u,a,b,(ho u a hu).1 c,d,i,i0,i1,e⟩
 jQ:=fun u a b c=>by
  have hu:u≠t:=fun e=>hs (by rw[<-e];exact c);exact(ho u a hu).1 (I.jQ u a b c)
 kX:=fun u a b c=>by
  have hu:u≠t:=fun e=>hn (by rw[<-e];exact c);exact I.kX u a b ((ho u a hu).2 c)
 pre:=I.pre
theorem jt.rest{m:aU}{n:Nat}{x:cN}{t:Int}(h:jt m n x t):∀b:Bool,(b=true->x.2.1<x.1.length)->jt m n (x.1,x.2.1,b,[],[],()) t:=fun b hb=>
  { ops:=h.ops,pc:=h.pc,on:=hb,off:=fun _=>⟨rfl,rfl⟩,got:=fun g hg=>by simp at hg,st:=.inl rfl,d7:=fun k hk=>by simp at hk,own:=fun k hk=>by simp at hk,
    along:=fun _=>Rz _,
    read:=fun e _=>by
      show ∃q B,path (dJ []) (prog (aW (x.1,x.2.1,b,[],[],())))=[]++q::B;have ho:dh (aW x)=true:=by have h1:=hb e;have h2:=h.pc;unfold aW;rw[qv (show x.2.1.toNat<x.1.length by omega)];exact h.ops.2 _ (d_ _)
      have hk:=tP ho;have e2:aW (x.1,x.2.1,b,[],[],())=aW x:=rfl;rw[e2];generalize aW x=o at *;simp only[gA];unfold prog;by_cases k1:o.1=1
      . rw[ak k1];unfold sL;simp only[path];exact⟨_,_,rfl⟩
      rw[af k1];by_cases k2:o.1=2
      . rw[ak k2];unfold sM;simp only[path];exact⟨_,_,rfl⟩
      rw[af k2];by_cases k3:o.1=3
      . rw[ak k3];unfold vj;simp only[path];exact⟨_,_,rfl⟩
      rw[af k3];by_cases k4:o.1=4
      . rw[ak k4];simp only[path];exact⟨_,_,rfl⟩
      rw[af k4];by_cases k5:o.1=5
      . rw[ak k5];simp only[path];exact⟨_,_,rfl⟩
      rw[af k5];by_cases k6:o.1=6
      . rw[ak k6];simp only[path];exact⟨_,_,rfl⟩
      rw[af k6];by_cases k7:o.1=7
      . rw[ak k7];unfold Cp;simp only[path];exact⟨_,_,rfl⟩
      rw[af k7];by_cases k8:o.1=8
      . rw[ak k8];simp only[path];exact⟨_,_,rfl⟩
      rw[af k8];by_cases k9:o.1=9
      . rw[ak k9];unfold yM;simp only[path];exact⟨_,_,rfl⟩
      rw[af k9];by_cases jq:o.1=10
      . rw[ak jq];unfold wk;simp only[path];exact⟨_,_,rfl⟩
      . omega
    plan:=fun e=>by simp[bD]at e }
theorem NG{m:aH}{t:Int}(t0:0<=t)(t1:t<m.2.1.length){k:Int}{r:fC}{yes:Int->Option fC}
    (hn:1<=m.2.1.length/\m.2.1.length<=3) (ht:0<=m.2.2.1) (hM:eY m.1 m.2.1.length m.2.2.1 (bx (er m t r))) (xx:∀u:Int,0<=u->u<m.2.1.length->jt m.1 m.2.1.length (ai m u) u) (oG:(ai m t).2.2.1=true)
    (hC:gn m.2.2.2.1 m.2.2.2.2.1 m.2.1.length m.2.2.1 (fun t=>(ai m t).2.2.1) (fun t=>(ai m t).2.1) (fun t=>aW (ai m t)) yes) (hk:f7 m.2.2.2.1 t k) (hy:yes t=some r) (hyo:∀u:Int,0<=u->u≠t->yes u=m4 m u)
    (hR:∃R,aS R/\iH m.2.2.2.1 m.2.2.2.2.2.1 m.2.2.2.2.1 R/\∀p:Int,0<=p->p<20->fY m.1 p=cg R p) (hf:aS m.2.2.2.2.2.1):Inv (er m t r):=by
  have e:er m t r=(m.1,m.2.1.set t.toNat ((ai m t).1,(ai m t).2.1+1,false,[],[],()),m.2.2.1,m.2.2.2.1.set k.toNat ((ay m.2.2.2.1 k).1,(ay m.2.2.2.1 k).2.1,(ay m.2.2.2.1 k).2.2.1,(ay m.2.2.2.1 k).2.2.2.1,m.2.2.1,r,()),m.2.2.2.2):=by unfold er iu;rw[hC.nr hk,af (by have:=hk.dQ;omega)];rfl
  have hl:(er m t r).2.1.length=m.2.1.length:=by rw[e];simp
  have fK:∀u:Int,0<=u->ai (er m t r) u=if u=t then ((ai m t).1,(ai m t).2.1+1,false,[],[],()) else ai m u:=fun u u0=>by
    have:=qW (m:=iu m t r) (u:=t) (t:=u) (x:=((ai m t).1,(ai m t).2.1+1,false,[],[],()));unfold er;have h2:(iu m t r).2.1=m.2.1:=by unfold iu;split<;>rfl
    rw[this (by rw[h2];exact⟨t0,t1⟩) u0,zS h2 u]
  have hx:=xx t t0 t1;have Ar:=hx.pc;have hlt:=hx.on oG;refine⟨by rw[hl];exact hn,by rw[e];exact ht,by rw[hl];rw[show(er m t r).2.2.1=m.2.2.1 by rw[e],show(er m t r).1=m.1 by rw[e]];exact hM,?_,?_,?_,by rw[e];exact hf⟩
  . intro u u0 u1
    rw[hl]at u1⊢;rw[fK u u0,show(er m t r).1=m.1 by rw[e]];by_cases h:u=t
    . subst h
      rw[ak rfl]
      exact { ops:=hx.ops,pc:=⟨by dsimp only;omega,by dsimp only;omega⟩,on:=fun q=>(by cases q),off:=fun _=>⟨rfl,rfl⟩,got:=fun g hg=>by simp at hg,st:=.inl rfl,d7:=fun k hk=>by simp at hk,own:=fun k hk=>by simp at hk,
              along:=fun _=>Rz _,read:=fun q _=>(by cases q),plan:=fun q=>by simp[bD]at q }
    . rw[af h];exact xx u u0 u1
  . have e1:(er m t r).2.2.2.1=m.2.2.2.1.set k.toNat ((ay m.2.2.2.1 k).1,(ay m.2.2.2.1 k).2.1,(ay m.2.2.2.1 k).2.2.1,(ay m.2.2.2.1 k).2.2.2.1,m.2.2.1,r,()):=by rw[e]
    have e2:(er m t r).2.2.2.2.1=m.2.2.2.2.1:=by rw[e]
    have e3:(er m t r).2.2.1=m.2.2.1:=by rw[e]
    rw[hl,e1,e2,e3];have hT:=(fK t t0).trans (ak rfl);have hO:∀u:Int,0<=u->u≠t->ai (er m t r) u=ai m u:=fun u u0 h=>(fK u u0).trans (af h);refine hC.fin t0 t1 hk hy (by rw[hT]) (fun u u0 h=>by rw[hO u u0 h]) (by rw[hT]) (fun u u0 h=>by rw[hO u u0 h]) (fun u u0 h=>by rw[hO u u0 h]) (fun u u0 h=>?_);rw[hyo u u0 h];unfold m4;rw[hO u u0 h,show(er m t r).1=m.1 by rw[e]]
  . obtain⟨R,h1,h2,h3⟩:=hR
    refine⟨R,h1,?_,by rw[show(er m t r).1=m.1 by rw[e]];exact h3⟩;rw[e];refine h2.same fun j hj=>?_;have hj':=hC.gM j hj;dsimp only;rw[DE hk.dQ hj'.1];by_cases h:j=k
    . rw[ak h,h];exact⟨rfl,((hC.qI t k t0 t1 hk).2 r hy).2.symm⟩
    . rw[af h];exact⟨rfl,rfl⟩
theorem ajR{m:aH}(I:Inv m){u:Int}(u0:0<=u)(u1:u<m.2.1.length)(hs:(aq m.1 u).2.1=1)(hall:∀i:Int,0<=i->i<(aq m.1 u).2.2.1.length->wd m.1 (qi (aq m.1 u).2.2.1 i).1=dM u (aq m.1 u).1)
  {R:qp} (hv:∀p:Int,0<=p->p<20->fY m.1 p=cg R p):(ai m u).2.2.2.1=fy R (aW (ai m u)):=by
 have hown:bx m u:=I.mem.jQ u u0 u1 hs;have T:=I.th u u0 u1;have oG:=T.nt hown;have ho:=T.op oG;obtain⟨hp,dz,hl,hr⟩:=T.plan hown;refine abU (KG ho T.got (T.along oG)).1 hp fun g hg=>?_;obtain⟨e,he,e1,e2⟩:=(Bo ho T.got (T.along oG) hp dz).1 g hg;have LZ:=Nx ho T.got (T.along oG) hp dz e he;rw[<-hl]at he;obtain⟨i,i0,i1,hi⟩:=Su he;have hm:=hall i i0 i1;rw[hi]at hm;have:=zT u0 hm;rw[af (by omega),<-hi,A_ (I.mem.dy u u0 u1).z7 i0 i1,hi]at this;rw[<-e2,<-this,hv _ LZ.1.1 LZ.1.2,e1]
theorem aki{m:aH}(I:Inv m){u:Int}(u0:0<=u)(u1:u<m.2.1.length)(hs:(aq m.1 u).2.1=1)(hall:∀i:Int,0<=i->i<(aq m.1 u).2.2.1.length->wd m.1 (qi (aq m.1 u).2.2.1 i).1=dM u (aq m.1 u).1) :
  Inv (iE (cI m (bJ m.1 u ((aq m.1 u).1,2,(aq m.1 u).2.2))) u (aq m.1 u).2.2.2.1):=by
 have hown:bx m u:=I.mem.jQ u u0 u1 hs;have T:=I.th u u0 u1;have oG:=T.nt hown;have ho:=T.op oG;obtain⟨hp,dz,hl,hr⟩:=T.plan hown;obtain⟨k,hk,uq⟩:=I.call.jQ u u0 u1 oG;obtain⟨R,hR,uv,hv⟩:=I.rep;have w7:=ajR I u0 u1 hs hall hv;rw[w7]at dz hl hr;have xz:=abh hR ho dz;have hout:=acF hR ho dz;obtain⟨hM,hH,hval⟩:=Ig I.mem u0 u1 (c:=2) hs (.inl rfl);have mu:=I.mem.dw;have hd:∀v:Int,0<=v->aq (bJ m.1 u ((aq m.1 u).1,2,(aq m.1 u).2.2)) v=if v=u then ((aq m.1 u).1,2,(aq m.1 u).2.2) else aq m.1 v:=fun v v0=>n_ (by omega) v0
 have hC:kI m.2.2.2.1 u=k:=I.call.nr hk;have e:iE (cI m (bJ m.1 u ((aq m.1 u).1,2,(aq m.1 u).2.2))) u (aq m.1 u).2.2.2.1=(bJ m.1 u ((aq m.1 u).1,2,(aq m.1 u).2.2),m.2.1,m.2.2.1,
   m.2.2.2.1.set k.toNat ((ay m.2.2.2.1 k).1,(ay m.2.2.2.1 k).2.1,(ay m.2.2.2.1 k).2.2.1,m.2.2.1,(ay m.2.2.2.1 k).2.2.2.2.1,(aq m.1 u).2.2.2.1,()),m.2.2.2.2.1++[k],m.2.2.2.2.2):=by
  unfold iE;rw[show(cI m (bJ m.1 u ((aq m.1 u).1,2,(aq m.1 u).2.2))).2.2.2.1=m.2.2.2.1 from rfl,hC,af (by have:=hk.dQ;omega)];rfl
 rw[e];have hyes:∀v:Int,0<=v->m4 (bJ m.1 u ((aq m.1 u).1,2,(aq m.1 u).2.2),m.2.1,m.2.2.1,
   m.2.2.2.1.set k.toNat ((ay m.2.2.2.1 k).1,(ay m.2.2.2.1 k).2.1,(ay m.2.2.2.1 k).2.2.1,m.2.2.1,(ay m.2.2.2.1 k).2.2.2.2.1,(aq m.1 u).2.2.2.1,()),m.2.2.2.2.1++[k],m.2.2.2.2.2) v=if v=u then some (aq m.1 u).2.2.2.1 else m4 m v:=by
  intro v v0;by_cases h:v=u
  .subst h;rw[ak rfl];show(if bD (ai m v) v=true/\(aq (bJ m.1 v ((aq m.1 v).1,2,(aq m.1 v).2.2)) v).2.1=2 then some (aq (bJ m.1 v ((aq m.1 v).1,2,(aq m.1 v).2.2)) v).2.2.2.1 else none)=_;rw[hd v v0,ak rfl,ak ⟨hown,rfl⟩]
  .rw[af h];show(if bD (ai m v) v=true/\(aq (bJ m.1 u ((aq m.1 u).1,2,(aq m.1 u).2.2)) v).2.1=2 then some (aq (bJ m.1 u ((aq m.1 u).1,2,(aq m.1 u).2.2)) v).2.2.2.1 else none)=_;rw[hd v v0,af h];rfl
 refine⟨I.n,I.time,hM,?_,?_,?_,I.first⟩
 .intro v v0 v1;refine(I.th v v0 v1).move hH ?_ ?_
  .show(aq (bJ m.1 u _) v).1=_;rw[hd v v0];split
   .next h=>rw[h]
   .rfl
  .show(aq (bJ m.1 u _) v).2.2=_;rw[hd v v0];split
   .next h=>rw[h]
   .rfl
 .exact I.call.so u0 u1 hk (by unfold m4;rw[af (by omega)]) (by rw[hr];exact Nj _ _) ((hyes u u0).trans (ak rfl)) (fun v v0 h=>(hyes v v0).trans (af h))
 .have gk:ay (m.2.2.2.1.set k.toNat ((ay m.2.2.2.1 k).1,(ay m.2.2.2.1 k).2.1,(ay m.2.2.2.1 k).2.2.1,m.2.2.1,(ay m.2.2.2.1 k).2.2.2.2.1,(aq m.1 u).2.2.2.1,())) k=((ay m.2.2.2.1 k).1,(ay m.2.2.2.1 k).2.1,(ay m.2.2.2.1 k).2.2.1,m.2.2.1,(ay m.2.2.2.1 k).2.2.2.2.1,(aq m.1 u).2.2.2.1,()):=by rw[DE hk.dQ hk.dQ.1,ak rfl]
  have hkn:k∉m.2.2.2.2.1:=fun q=>by
   have h1:=(I.call.gM k q).2.2;have h2:=(I.call.qI u k u0 u1 hk).1 (by unfold m4;rw[af (by omega)]);omega
  have xo:iH (m.2.2.2.1.set k.toNat ((ay m.2.2.2.1 k).1,(ay m.2.2.2.1 k).2.1,(ay m.2.2.2.1 k).2.2.1,m.2.2.1,(ay m.2.2.2.1 k).2.2.2.2.1,(aq m.1 u).2.2.2.1,())) m.2.2.2.2.2.1 m.2.2.2.2.1 R:=by refine uv.same fun j hj=>?_;rw[DE hk.dQ (I.call.gM j hj).1,af (fun q:j=k=>hkn (by rw[<-q];exact hj))];exact⟨rfl,rfl⟩
  have L4:=iH.snoc (k:=k) xo hR (by rw[gk];dsimp only;rw[uq,hr];exact hout);rw[gk]at L4;dsimp only at L4;refine⟨jh R (ay m.2.2.2.1 k).2.1 (aq m.1 u).2.2.2.1.1,by rw[uq,hr];exact xz.2,L4,fun p p0 p1=>?_⟩;show fY (bJ m.1 u _) p=_;rw[hval p p0 p1,uq,hr];by_cases hw:wd m.1 p=dM u (aq m.1 u).1
  .rw[ak ⟨rfl,hw⟩];rcases I.mem.word p p0 p1 with h | ⟨v,v0,v1,_,d,i,i0,i1,ei⟩
   .exact absurd hw (vA h.1 u0)
   .obtain rfl:v=u:=(tM (d.symm.trans hw)).1;rw[<-ei,A_ (I.mem.dy v v0 v1).z7 i0 i1];have hm:=Mv i0 i1;rw[hl]at hm⊢;exact(xz.1.old _ hm).2.2.2
  .rw[af (fun q=>hw q.2),hv p p0 p1];have:=xz.1.rest p.toNat (by omega) (fun e he=>by
    rw[<-hl]at he;obtain⟨i,i0,i1,hi⟩:=Su he;intro q;have:=hall i i0 i1;rw[hi,q,show((p.toNat:Nat):Int)=p by omega]at this;exact hw this)
   rw[show((p.toNat:Nat):Int)=p by omega]at this;exact this
theorem acY{m:aH}(I:Inv m){t:Int}(t0:0<=t)(t1:t<m.2.1.length)(hs:(ai m t).2.2.2.2.1≠[]):Inv (kH m t):=by
 have T:=I.th t t0 t1;have ho:=T.Au hs;have H:=T.d7 _ (mK hs);have hw:=fun e=>T.own _ (mK hs) e;have LR:bD (ai m t) t=false->(au (ai m t)).1≠t:=fun h e=>by rw[(J9 T hs e).1]at h;cases h
 have Vm:=M3 T hs;have xy:∀k,(ai m t).2.2.2.2.1=[k]->au (ai m t)=k:=fun k e=>by unfold au;rw[e];rfl
 generalize hh:au (ai m t)=h at *;have u0:=H.t.1;have u1:=H.t.2;by_cases hd:(aq m.1 h.1).1≠h.2.1
 .have e:q7 m.1 h=(m.1,h,dH,2,()):=by unfold q7;rw[ak hd]
  have hne:h.1≠t:=fun q=>hd (by rw[q];exact(hw q).symm);unfold kH;rw[hh,e];dsimp only;rw[af (by decide),ak rfl,ak hne];obtain⟨p1,p2,p3,p4⟩:=Oc T hs (by rw[hh];exact hne);exact zY I t0 t1 ho I.mem (fun u _ _=>⟨rfl,rfl,i6⟩) (fun k hk=>hk) p1 p2 p3 p4 (fun p _ _=>rfl)
 have hd':h.2.1=(aq m.1 h.1).1:=by omega
 obtain⟨c1,c2,c3,c4⟩:=H.cur hd';have UL:∀{a:aU}(hk:∀k,bW m.1 m.2.1.length k->bW a m.2.1.length k) {h':gx} (he:bW a m.2.1.length h') (e1:h'.1=h.1) (e2:h'.2.1=h.2.1),_:=fun {a} hk {h'} he e1 e2=>
  NW T hs hk he (fun q=>by rw[e2];exact hw (e1 ▸ q)) (fun q=>by rw[e1];exact LR q) (fun k ek q=>by rw[e1,xy k ek];exact q)
 by_cases hst:(aq m.1 h.1).2.1=1
 .by_cases eu:((aq m.1 h.1).2.2.1.length:Int)<=h.2.2.1
  .have e:q7 m.1 h=(bJ m.1 h.1 ((aq m.1 h.1).1,2,(aq m.1 h.1).2.2),h,dH,3,()):=by unfold q7;rw[af hd,ak hst,ak eu]
   unfold kH;rw[hh,e];dsimp only;rw[af (by decide),af (by decide),ak rfl,Vm];have hall:=(c3 hst).2;have:=aki I u0 u1 hst (fun i i0 i1=>by rw[<-hd'];exact hall i i0 (by omega));have e2:(iE (cI m (bJ m.1 h.1 ((aq m.1 h.1).1,2,(aq m.1 h.1).2.2))) h.1 (aq m.1 h.1).2.2.2.1).2.1=m.2.1:=by unfold iE;split<;>rfl
   have e3:=zS e2 t;rw[<-e3,Sb t0 (by rw[e2];exact t1)];exact this
  have hlt:h.2.2.1<(aq m.1 h.1).2.2.1.length:=by omega
  have i0:=H.r7.1;have iU:=I.mem.gX u0 u1 i0 hlt;by_cases hmk:wd m.1 (qi (aq m.1 h.1).2.2.1 h.2.2.1).1=dM h.1 h.2.1
  .have e:q7 m.1 h=(m.1,(h.1,h.2.1,h.2.2.1+1,h.2.2.2),dH,0,()):=by unfold q7;rw[af hd,ak hst,af eu,ak hmk]
   have hn:bW m.1 m.2.1.length (h.1,h.2.1,h.2.2.1+1,h.2.2.2):=by
    refine⟨H.t,H.seq,⟨by dsimp only;omega,by dsimp only;have:=(I.mem.dy _ u0 u1).len;omega⟩,H.fin,fun _=>⟨by dsimp only;omega,c2,fun _=>⟨(c3 hst).1,fun i a b=>?_⟩,fun q=>absurd hst q⟩⟩;dsimp only at b⊢;by_cases hi:i=h.2.2.1
    .rw[hi];exact hmk
    .exact(c3 hst).2 i a (by omega)
   unfold kH;rw[hh,e];dsimp only;rw[af (by decide),af (by decide),af (by decide)];obtain⟨p1,p2,p3,p4⟩:=UL (fun k hk=>hk) hn rfl rfl;exact zY I t0 t1 ho I.mem (fun u _ _=>⟨rfl,rfl,i6⟩) (fun k hk=>hk) p1 p2 p3 p4 (fun p _ _=>rfl)
  by_cases xC:(wd m.1 (qi (aq m.1 h.1).2.2.1 h.2.2.1).1).2.1≠0
  .have e:q7 m.1 h=(m.1,h,((wd m.1 (qi (aq m.1 h.1).2.2.1 h.2.2.1).1).2.1-1,(wd m.1 (qi (aq m.1 h.1).2.2.1 h.2.2.1).1).2.2.1,0,0,()),1,()):=by unfold q7;rw[af hd,ak hst,af eu,af hmk,ak xC]
   rcases I.mem.word _ iU.1.1 iU.1.2 with hq | ⟨v,v0,v1,vo,vm,j,j0,j1,je⟩
   .exact absurd hq.1 xC
   have e2:((wd m.1 (qi (aq m.1 h.1).2.2.1 h.2.2.1).1).2.1-1,(wd m.1 (qi (aq m.1 h.1).2.2.1 h.2.2.1).1).2.2.1,(0:Int),(0:Int),())=(v,(aq m.1 v).1,0,0,()):=by rw[vm];simp only[dM];rw[show v+1-1=v by omega]
   rw[e2]at e;have Vn:v≠h.1:=fun q=>hmk (by rw[vm,q,hd']);have hn:bW m.1 m.2.1.length (v,(aq m.1 v).1,0,0,()):=by
    refine⟨⟨v0,v1⟩,⟨I.mem.kX v v0 v1 vo,fh _⟩,⟨by dsimp only;omega,by dsimp only;omega⟩,⟨by dsimp only;omega,by dsimp only;omega⟩,fun _=>⟨by dsimp only;omega,by dsimp only;omega,fun _=>⟨rfl,fun i a b=>?_⟩,fun _ i a b=>?_⟩⟩
    .dsimp only at b;omega
    .dsimp only at b;omega
   unfold kH;rw[hh,e];dsimp only;rw[ak rfl];by_cases hc:h.1=t/\(ai m t).2.2.2.2.1.length=1
   .rw[ak hc];have hk:∃k,(ai m t).2.2.2.2.1=[k]:=by
     match hq:(ai m t).2.2.2.2.1,hc.2 with
     | [k],_=>exact⟨k,rfl⟩
    obtain⟨k,hk⟩:=hk;have Er:k.1=t:=by rw[<-xy k hk];exact hc.1
    obtain⟨p1,p2,p3,p4⟩:=Nh T hn (by show v≠t;rw[<-hc.1];exact Vn) (.inr ⟨k,hk,Er⟩);exact zY I t0 t1 ho I.mem (fun u _ _=>⟨rfl,rfl,i6⟩) (fun k hk=>hk) p1 p2 p3 p4 (fun p _ _=>rfl)
   .rw[af hc];obtain⟨p1,p2,p3,p4⟩:=NW T hs (fun k hk=>hk) hn (fun q=>by dsimp only at q⊢;rw[q]) (fun q=>by
      intro q2;dsimp only at q2;rw[q2]at vo;unfold bx at vo;rw[q]at vo;cases vo) (fun k ek q=>by
      exfalso;exact hc ⟨by rw[xy k ek];exact q,by rw[ek];rfl⟩)
    exact zY I t0 t1 ho I.mem (fun u _ _=>⟨rfl,rfl,i6⟩) (fun k hk=>hk) p1 p2 p3 p4 (fun p _ _=>rfl)
  have hw0:(wd m.1 (qi (aq m.1 h.1).2.2.1 h.2.2.1).1).2.1=0:=by omega
  by_cases hold:(wd m.1 (qi (aq m.1 h.1).2.2.1 h.2.2.1).1).1=(qi (aq m.1 h.1).2.2.1 h.2.2.1).2.1
  .have e:q7 m.1 h=(eA m.1 (qi (aq m.1 h.1).2.2.1 h.2.2.1).1 (dM h.1 h.2.1),(h.1,h.2.1,h.2.2.1+1,h.2.2.2),dH,0,()):=by unfold q7;rw[af hd,ak hst,af eu,af hmk,af xC,ak hold]
   obtain⟨hM,hV,hH⟩:=Fc I.mem u0 u1 hst i0 hlt hw0 hold (fun j a b=>by rw[<-hd'];exact(c3 hst).2 j a b);rw[<-hd']at hM hV hH;have hn:bW (eA m.1 (qi (aq m.1 h.1).2.2.1 h.2.2.1).1 (dM h.1 h.2.1)) m.2.1.length (h.1,h.2.1,h.2.2.1+1,h.2.2.2):=by
    refine⟨H.t,H.seq,⟨by dsimp only;omega,by dsimp only;have:=(I.mem.dy _ u0 u1).len;omega⟩,H.fin,fun _=>⟨by dsimp only;exact hlt,c2,fun _=>⟨(c3 hst).1,fun i a b=>?_⟩,fun q=>absurd hst q⟩⟩;dsimp only at b⊢;have hlen:=I.mem.len;rw[show aq (eA m.1 (qi (aq m.1 h.1).2.2.1 h.2.2.1).1 (dM h.1 h.2.1)) h.1=aq m.1 h.1 from rfl];have Ai:=I.mem.gX u0 u1 a (by omega:i<_);rw[Fj (by omega) Ai.1.1];by_cases hi:(qi (aq m.1 h.1).2.2.1 i).1=(qi (aq m.1 h.1).2.2.1 h.2.2.1).1
    .rw[ak hi]
    .rw[af hi];exact(c3 hst).2 i a (by
      by_cases q:i=h.2.2.1
      .exact absurd (by rw[q]) hi
      .omega)
   unfold kH;rw[hh,e];dsimp only;rw[af (by decide),af (by decide),af (by decide)];obtain⟨p1,p2,p3,p4⟩:=UL hH hn rfl rfl;exact zY I t0 t1 ho hM (fun u _ _=>⟨rfl,rfl,i6⟩) hH p1 p2 p3 p4 hV
  .have e:q7 m.1 h=(bJ m.1 h.1 ((aq m.1 h.1).1,3,(aq m.1 h.1).2.2),h,dH,0,()):=by unfold q7;rw[af hd,ak hst,af eu,af hmk,af xC,af hold]
   obtain⟨hM,hH,hV⟩:=Ig I.mem u0 u1 (c:=3) hst (.inr rfl);have mu:=I.mem.dw;have lH:∀v:Int,0<=v->aq (bJ m.1 h.1 ((aq m.1 h.1).1,3,(aq m.1 h.1).2.2)) v=if v=h.1 then ((aq m.1 h.1).1,3,(aq m.1 h.1).2.2) else aq m.1 v:=fun v v0=>n_ (by omega) v0
   unfold kH;rw[hh,e];dsimp only;rw[af (by decide),af (by decide),af (by decide)];obtain⟨p1,p2,p3,p4⟩:=UL hH (hH _ H) rfl rfl;refine zY I t0 t1 ho hM (fun v v0 _=>?_) hH p1 p2 p3 p4 (fun p a b=>by rw[hV p a b,af (by omega)]);rw[lH v v0];by_cases q:v=h.1
   .rw[ak q,q];exact⟨rfl,rfl,by dsimp only;omega⟩
   .rw[af q];exact⟨rfl,rfl,i6⟩
 .by_cases kO:((aq m.1 h.1).2.2.1.length:Int)<=h.2.2.2.1
  .have e:q7 m.1 h=(m.1,h,dH,2,()):=by unfold q7;rw[af hd,af hst,ak kO]
   unfold kH;rw[hh,e];dsimp only;rw[af (by decide),ak rfl];by_cases hne:h.1≠t
   .rw[ak hne];obtain⟨p1,p2,p3,p4⟩:=Oc T hs (by rw[hh];exact hne);exact zY I t0 t1 ho I.mem (fun u _ _=>⟨rfl,rfl,i6⟩) (fun k hk=>hk) p1 p2 p3 p4 (fun p _ _=>rfl)
   rw[af hne];have CV:h.1=t:=by omega
   have hown:=(J9 T hs (by rw[hh];exact CV)).1;have Vl:=hw CV;rw[CV]at hst c4 kO;rw[Vl]at c4;have wU:∀i:Int,0<=i->i<(aq m.1 t).2.2.1.length->wd m.1 (qi (aq m.1 t).2.2.1 i).1≠dM t (aq m.1 t).1:=fun i a b=>c4 hst i a (by omega);have oY:=I.mem.kX t t0 t1 hown;have Yf:=(I.mem.dy t t0 t1).st.2 oY;by_cases hy:(aq m.1 t).2.1=2
   .rw[ak hy];obtain⟨k,hk,_⟩:=I.call.jQ t t0 t1 ho;have fK:∀u:Int,0<=u->ai (er (cI m m.1) t (aq m.1 t).2.2.2.1) u=if u=t then ((ai m t).1,(ai m t).2.1+1,false,[],[],()) else ai m u:=fun u u0=>by
     unfold er;have h2:(iu (cI m m.1) t (aq m.1 t).2.2.2.1).2.1=m.2.1:=by unfold iu;split<;>rfl
     rw[qW (by rw[h2];exact⟨t0,t1⟩) u0,zS h2 u];rfl
    refine NG (m:=m) t0 t1 I.n I.time ?_ I.th ho I.call hk (by unfold m4;rw[ak ⟨hown,hy⟩]) (fun _ _ _=>rfl) I.rep I.first;refine RO I.mem t0 t1 hst wU (fun u u0 hu=>?_) ?_
    .unfold bx;rw[show er m t (aq m.1 t).2.2.2.1=er (cI m m.1) t (aq m.1 t).2.2.2.1 from rfl,fK u u0,af hu]
    .unfold bx;rw[show er m t (aq m.1 t).2.2.2.1=er (cI m m.1) t (aq m.1 t).2.2.2.1 from rfl,fK t t0,ak rfl];simp[bD]
   .rw[af hy];refine Bt I t0 t1 ?_ (fun u _ _ _=>⟨rfl,rfl⟩) (fun k hk=>hk) ?_ ⟨rfl,rfl,rfl⟩ (fun u u0 u1=>?_) (fun p _ _=>rfl)
    .refine RO I.mem t0 t1 hst wU (fun u u0 hu=>?_) ?_
     .unfold bx;rw[qW (m:=cI m m.1) ⟨t0,t1⟩ u0,af hu];exact i6
     .unfold bx;rw[qW (m:=cI m m.1) ⟨t0,t1⟩ t0,ak rfl];simp[bD]
    .exact T.rest _ (fun _=>T.on ho)
    .unfold m4;rw[qW (m:=cI m m.1) ⟨t0,t1⟩ u0];by_cases q:u=t
     .rw[ak q,q,af (by simp[bD]),af (fun z=>hy z.2)]
     .rw[af q];rfl
  .have hlt:h.2.2.2.1<(aq m.1 h.1).2.2.1.length:=by omega
   have i0:=H.fin.1;have iU:=I.mem.gX u0 u1 i0 hlt;by_cases hmk:wd m.1 (qi (aq m.1 h.1).2.2.1 h.2.2.2.1).1=dM h.1 h.2.1
   .have e:q7 m.1 h=(eA m.1 (qi (aq m.1 h.1).2.2.1 h.2.2.2.1).1 (if (aq m.1 h.1).2.1=2 then (qi (aq m.1 h.1).2.2.1 h.2.2.2.1).2.2.1 else (qi (aq m.1 h.1).2.2.1 h.2.2.2.1).2.1,0,0,()),(h.1,h.2.1,h.2.2.1,h.2.2.2.1+1,()),dH,0,()):=by unfold q7;rw[af hd,af hst,af kO,ak hmk]
    obtain⟨hM,hV,hH⟩:=Nz I.mem u0 u1 hst i0 hlt (by rw[<-hd'];exact hmk);have hn:bW (eA m.1 (qi (aq m.1 h.1).2.2.1 h.2.2.2.1).1 (if (aq m.1 h.1).2.1=2 then (qi (aq m.1 h.1).2.2.1 h.2.2.2.1).2.2.1 else (qi (aq m.1 h.1).2.2.1 h.2.2.2.1).2.1,0,0,())) m.2.1.length (h.1,h.2.1,h.2.2.1,h.2.2.2.1+1,()):=by
     refine⟨H.t,H.seq,H.r7,⟨by dsimp only;omega,by dsimp only;have:=(I.mem.dy _ u0 u1).len;omega⟩,fun _=>⟨c1,by dsimp only;exact hlt,fun q=>absurd q hst,fun _ i a b=>?_⟩⟩;dsimp only at b⊢;have hlen:=I.mem.len;rw[show ∀w,aq (eA m.1 (qi (aq m.1 h.1).2.2.1 h.2.2.2.1).1 w) h.1=aq m.1 h.1 from fun w=>rfl];have Ai:=I.mem.gX u0 u1 a (by omega:i<_);rw[Fj (by omega) Ai.1.1];by_cases hi:(qi (aq m.1 h.1).2.2.1 i).1=(qi (aq m.1 h.1).2.2.1 h.2.2.2.1).1
     .rw[ak hi];exact vA rfl u0
     .rw[af hi];exact c4 hst i a (by
       by_cases q:i=h.2.2.2.1
       .exact absurd (by rw[q]) hi
       .omega)
    unfold kH;rw[hh,e];dsimp only;rw[af (by decide),af (by decide),af (by decide)];obtain⟨p1,p2,p3,p4⟩:=UL hH hn rfl rfl;exact zY I t0 t1 ho hM (fun u _ _=>⟨rfl,rfl,i6⟩) hH p1 p2 p3 p4 hV
   .have e:q7 m.1 h=(m.1,(h.1,h.2.1,h.2.2.1,h.2.2.2.1+1,()),dH,0,()):=by unfold q7;rw[af hd,af hst,af kO,af hmk]
    have hn:bW m.1 m.2.1.length (h.1,h.2.1,h.2.2.1,h.2.2.2.1+1,()):=by
     refine⟨H.t,H.seq,H.r7,⟨by dsimp only;omega,by dsimp only;have:=(I.mem.dy _ u0 u1).len;omega⟩,fun _=>⟨c1,by dsimp only;exact hlt,fun q=>absurd q hst,fun _ i a b=>?_⟩⟩;dsimp only at b⊢;by_cases q:i=h.2.2.2.1
     .rw[q];exact hmk
     .exact c4 hst i a (by omega)
    unfold kH;rw[hh,e];dsimp only;rw[af (by decide),af (by decide),af (by decide)];obtain⟨p1,p2,p3,p4⟩:=UL (fun k hk=>hk) hn rfl rfl;exact zY I t0 t1 ho I.mem (fun u _ _=>⟨rfl,rfl,i6⟩) (fun k hk=>hk) p1 p2 p3 p4 (fun p _ _=>rfl)
theorem BE{m:aH}(a:aU){t u:Int}{x:cN}(h:0<=t/\t<m.2.1.length)(u0:0<=u):ai (cB (cI m a) t x) u=if u=t then x else ai m u:=qW (m:=cI m a) h u0
theorem acT{got:dL}(h:sA got){q v:Int}(hv:0<=v/\v<=6):sA (got++[(q,v,())]):=by
 intro g hg;rcases bN.1 hg with k | k
 .exact h g k
 .rw[d9]at k;rw[k];exact hv
theorem S4{m:aH}(I:Inv m){t:Int}(t0:0<=t)(t1:t<m.2.1.length)(ho:(ai m t).2.2.1=true)(hs:(ai m t).2.2.2.2.1=[])(oY:(aq m.1 t).1+1<=m.2.2.1):Inv (tR m t):=by
  have T:=I.th t t0 t1;have hop:=T.op ho;have i7:=zU (t:=t) hs;have hno:¬ bx m t:=by unfold bx;rw[i7];simp
  obtain⟨q,B,hq⟩:=T.read ho i7;have nP:=T.along ho;obtain⟨JI,zE⟩:=KI hop T.got nP;have oF:Db (ai m t)=q/\(0<=q/\q<20)/\q∉g7 (ai m t).2.2.2.1/\(ai m t).2.2.2.1.length<8:=by
    rcases zE with h | ⟨q',B',h,h2,h3,h4,h5⟩
    . rw[hq]at h
      have:=eg List.length h.1;simp at this
    . rw[hq]at h
      have:=FR h;simp only[eZ]at this;obtain⟨rfl,_⟩:=this;exact⟨h2,h3,h4,h5⟩
  obtain⟨oF,qC,X9,hlen⟩:=oF;obtain⟨R,hR,uv,hv⟩:=I.rep;unfold tR;have Ep:iA m (ai m t)=(ai m t).2.2.2.1++[(q,(wd m.1 q).1,())]:=by unfold iA;rw[oF]
  rw[oF,Ep];by_cases hw:(wd m.1 q).2.1≠0
  . rw[ak hw]
    rcases I.mem.word q qC.1 qC.2 with h | ⟨v,v0,v1,vo,vm,j,j0,j1,je⟩
    . exact absurd h.1 hw
    have e2:((wd m.1 q).2.1-1,(wd m.1 q).2.2.1,(0:Int),(0:Int),())=(v,(aq m.1 v).1,0,0,()):=by rw[vm];simp only[dM];rw[show v+1-1=v by omega]
    rw[e2];have hn:bW m.1 m.2.1.length (v,(aq m.1 v).1,0,0,()):=by
      refine⟨⟨v0,v1⟩,⟨I.mem.kX v v0 v1 vo,fh _⟩,⟨by dsimp only;omega,by dsimp only;omega⟩,⟨by dsimp only;omega,by dsimp only;omega⟩,fun _=>⟨by dsimp only;omega,by dsimp only;omega,fun _=>⟨rfl,fun i a b=>?_⟩,fun _ i a b=>?_⟩⟩
      . dsimp only at b;omega
      . dsimp only at b;omega
    obtain⟨p1,p2,p3,p4⟩:=Nh T hn (fun e=>hno (by rw[<-show v=t from e];exact vo)) (.inl hs);exact zY I t0 t1 ho I.mem (fun u _ _=>⟨rfl,rfl,i6⟩) (fun k hk=>hk) p1 p2 p3 p4 (fun p _ _=>rfl)
  have hw0:(wd m.1 q).2.1=0:=by omega
  rw[af hw];have hval:(wd m.1 q).1=cg R q:=by rw[<-vk hw0,hv q qC.1 qC.2]
  rw[hval];have hg':sA ((ai m t).2.2.2.1++[(q,cg R q,())]):=acT T.got (B_ hR q qC);have ue:qO ((ai m t).2.2.2.1++[(q,cg R q,())]) (aW (ai m t)):=aa6 hop T.got nP hq X9 _;obtain⟨ami,LX⟩:=KI hop hg' ue;by_cases hlt:¬ (run ((ai m t).2.2.2.1++[(q,cg R q,())]) (prog (aW (ai m t)))).2<0
  . have uu:gj (aW (ai m t)) ((ai m t).2.2.2.1++[(q,cg R q,())])=(Oh,false,()):=by unfold gj;rw[af (fun z=>hlt z.2)]
    rw[uu,ak rfl];have hb:bD (rX (ai m t) ((ai m t).2.2.2.1++[(q,cg R q,())])) t=bD (ai m t) t:=rfl;refine Bt I t0 t1 (I.mem.kW fun u u0 _=>SS (a:=m.1) t0 t1 hb u u0) (fun u _ _ _=>⟨rfl,rfl⟩) (fun k hk=>hk) ?_ ⟨rfl,rfl,rfl⟩ (fun u u0 _=>M9 t0 t1 u0 hb i6 rfl) (fun p _ _=>rfl)
    exact { ops:=T.ops,pc:=T.pc,on:=T.on,off:=fun e=>by rw[show(rX (ai m t) ((ai m t).2.2.2.1++[(q,cg R q,())])).2.2.1=(ai m t).2.2.1 from rfl,ho]at e;cases e
            got:=hg',st:=T.st,d7:=T.d7,own:=T.own,along:=fun _=>ue
            read:=fun _ _=>by
              rcases LX with h | ⟨q',B',h,_⟩
              . exact absurd h.2 (by omega)
              . exact⟨q',B',h⟩
            plan:=fun e=>by rw[hb,i7]at e;cases e }
  replace hlt:(run ((ai m t).2.2.2.1++[(q,cg R q,())]) (prog (aW (ai m t)))).2<0:=by omega
  have p_:path (dJ ((ai m t).2.2.2.1++[(q,cg R q,())])) (prog (aW (ai m t)))=g7 ((ai m t).2.2.2.1++[(q,cg R q,())]):=by
    rcases LX with h | ⟨q',B',h,h2,h3,_⟩
    . exact h.1
    . omega
  obtain⟨k,hk,uq⟩:=I.call.jQ t t0 t1 ho;have Vq:m4 m t=none:=by unfold m4;rw[af (fun z=>by rw[i7]at z;cases z.1)]
  cases dz:mM (aW (ai m t)) ((ai m t).2.2.2.1++[(q,cg R q,())]) with
  | some y=>
    have uu:gj (aW (ai m t)) ((ai m t).2.2.2.1++[(q,cg R q,())])=((true,(y.1,y.2,()),[],()),true,()):=by unfold gj;rw[ak ⟨hop,hlt⟩,dz]
    rw[uu];dsimp only;rw[af (by simp),ak rfl];obtain⟨hout,Xn,hyl⟩:=akD hR hop p_ dz;have hC:kI m.2.2.2.1 t=k:=I.call.nr hk;have e:iE m t (y.1,y.2,())=(m.1,m.2.1,m.2.2.1,m.2.2.2.1.set k.toNat ((ay m.2.2.2.1 k).1,(ay m.2.2.2.1 k).2.1,(ay m.2.2.2.1 k).2.2.1,m.2.2.1,(ay m.2.2.2.1 k).2.2.2.2.1,(y.1,y.2,()),()),m.2.2.2.2.1++[k],m.2.2.2.2.2):=by unfold iE;rw[hC,af (by have:=hk.dQ;omega)];rfl
    have Vk:=I.call.so (r:=(y.1,y.2,())) t0 t1 hk Vq hyl (om:=fun u=>if u=t then some (y.1,y.2,()) else m4 m u) (ak rfl) (fun u _ h=>af h);have hkn:k∉m.2.2.2.2.1:=fun z=>by
      have h1:=(I.call.gM k z).2.2;have h2:=(I.call.qI t k t0 t1 hk).1 Vq;omega
    have gk:ay (m.2.2.2.1.set k.toNat ((ay m.2.2.2.1 k).1,(ay m.2.2.2.1 k).2.1,(ay m.2.2.2.1 k).2.2.1,m.2.2.1,(ay m.2.2.2.1 k).2.2.2.2.1,(y.1,y.2,()),())) k=((ay m.2.2.2.1 k).1,(ay m.2.2.2.1 k).2.1,(ay m.2.2.2.1 k).2.2.1,m.2.2.1,(ay m.2.2.2.1 k).2.2.2.2.1,(y.1,y.2,()),()):=by rw[DE hk.dQ hk.dQ.1,ak rfl]
    have L4:iH (m.2.2.2.1.set k.toNat ((ay m.2.2.2.1 k).1,(ay m.2.2.2.1 k).2.1,(ay m.2.2.2.1 k).2.2.1,m.2.2.1,(ay m.2.2.2.1 k).2.2.2.2.1,(y.1,y.2,()),())) m.2.2.2.2.2.1 (m.2.2.2.2.1++[k]) R:=by
      have xo:iH (m.2.2.2.1.set k.toNat ((ay m.2.2.2.1 k).1,(ay m.2.2.2.1 k).2.1,(ay m.2.2.2.1 k).2.2.1,m.2.2.1,(ay m.2.2.2.1 k).2.2.2.2.1,(y.1,y.2,()),())) m.2.2.2.2.2.1 m.2.2.2.2.1 R:=by refine uv.same fun j hj=>?_;rw[DE hk.dQ (I.call.gM j hj).1,af (fun z:j=k=>hkn (by rw[<-z];exact hj))];exact⟨rfl,rfl⟩
      have h:=iH.snoc (k:=k) xo hR (by rw[gk];dsimp only;rw[uq];exact hout);rw[gk]at h;dsimp only at h;rw[show jh R (ay m.2.2.2.1 k).2.1 y.1=R by rw[uq];exact Xn]at h;exact h
    rw[e];have fK:∀u:Int,0<=u->ai (er (m.1,m.2.1,m.2.2.1,m.2.2.2.1.set k.toNat ((ay m.2.2.2.1 k).1,(ay m.2.2.2.1 k).2.1,(ay m.2.2.2.1 k).2.2.1,m.2.2.1,(ay m.2.2.2.1 k).2.2.2.2.1,(y.1,y.2,()),()),m.2.2.2.2.1++[k],m.2.2.2.2.2) t (y.1,y.2,())) u=if u=t then ((ai m t).1,(ai m t).2.1+1,false,[],[],()) else ai m u:=by
      intro u u0;unfold er;have h2:(iu (m.1,m.2.1,m.2.2.1,m.2.2.2.1.set k.toNat ((ay m.2.2.2.1 k).1,(ay m.2.2.2.1 k).2.1,(ay m.2.2.2.1 k).2.2.1,m.2.2.1,(ay m.2.2.2.1 k).2.2.2.2.1,(y.1,y.2,()),()),m.2.2.2.2.1++[k],m.2.2.2.2.2) t (y.1,y.2,())).2.1=m.2.1:=by unfold iu;split<;>rfl
      rw[qW (by rw[h2];exact⟨t0,t1⟩) u0,zS h2 u];rfl
    refine NG (m:=(m.1,m.2.1,m.2.2.1,m.2.2.2.1.set k.toNat ((ay m.2.2.2.1 k).1,(ay m.2.2.2.1 k).2.1,(ay m.2.2.2.1 k).2.2.1,m.2.2.1,(ay m.2.2.2.1 k).2.2.2.2.1,(y.1,y.2,()),()),m.2.2.2.2.1++[k],m.2.2.2.2.2)) (k:=k) (yes:=fun u=>if u=t then some (y.1,y.2,()) else m4 m u)
      t0 t1 I.n I.time ?_ I.th ho Vk ?_ (ak rfl) (fun u _ h=>af h) ⟨R,hR,L4,hv⟩ I.first
    . refine I.mem.kW fun u u0 _=>?_
      unfold bx;rw[fK u u0];by_cases h:u=t
      . rw[ak h,h,i7];simp[bD]
      . rw[af h]
    . exact⟨by simpa using hk.dQ,by show(ay (m.2.2.2.1.set _ _) k).1=t;rw[gk];exact hk.t,by show(ay (m.2.2.2.1.set _ _) k).2.2.2.2.1 = -1;rw[gk];exact hk.fin⟩
  | none=>
    have uu:gj (aW (ai m t)) ((ai m t).2.2.2.1++[(q,cg R q,())])=((false,eF (aW (ai m t)) ((ai m t).2.2.2.1++[(q,cg R q,())]),dI (aW (ai m t)) ((ai m t).2.2.2.1++[(q,cg R q,())]),()),true,()):=by unfold gj;rw[ak ⟨hop,hlt⟩,dz]
    rw[uu];dsimp only;rw[af (by simp),af (by simp)];have hE:=Nw hop hg' ue p_ dz;have hEr:=Nx hop hg' ue p_ dz;have hEl:=(Bo hop hg' ue p_ dz).2.2;rw[cV,nL]at hEl;generalize hx:rf (rX (ai m t) ((ai m t).2.2.2.1++[(q,cg R q,())])) (t,(aq m.1 t).1+1,0,0,())=x;have f9:x.2.2.2.2.1=[(t,(aq m.1 t).1+1,0,0,())]:=by rw[<-hx];show(ai m t).2.2.2.2.1++_=_;rw[hs];rfl
    have w7:x.2.2.2.1=(ai m t).2.2.2.1++[(q,cg R q,())]:=by rw[<-hx];rfl
    have LO:aW x=aW (ai m t):=by rw[<-hx];rfl
    have oG:x.2.2.1=true:=by rw[<-hx];exact ho
    have C0:bD x t=true:=(HP x t).2 ⟨_,_,f9,rfl⟩;have mu:=I.mem.dw;obtain⟨hM,hH,hV⟩:=akB I.mem t0 t1 hno (lY:=bx (cB (cI m (bJ m.1 t ((aq m.1 t).1+1,1,dI (aW (ai m t)) ((ai m t).2.2.2.1++[(q,cg R q,())]),eF (aW (ai m t)) ((ai m t).2.2.2.1++[(q,cg R q,())]),()))) t x))
      (by unfold bx;rw[BE _ ⟨t0,t1⟩ t0,ak rfl];exact C0) (fun u u0 h=>by unfold bx;rw[BE _ ⟨t0,t1⟩ u0,af h])
      (r:=eF (aW (ai m t)) ((ai m t).2.2.2.1++[(q,cg R q,())])) hE (by omega) hEr oY (Nj _ _)
    have hd:∀u:Int,0<=u->aq (bJ m.1 t ((aq m.1 t).1+1,1,dI (aW (ai m t)) ((ai m t).2.2.2.1++[(q,cg R q,())]),eF (aW (ai m t)) ((ai m t).2.2.2.1++[(q,cg R q,())]),())) u=if u=t then ((aq m.1 t).1+1,1,dI (aW (ai m t)) ((ai m t).2.2.2.1++[(q,cg R q,())]),eF (aW (ai m t)) ((ai m t).2.2.2.1++[(q,cg R q,())]),()) else aq m.1 u:=fun u u0=>n_ (by omega) u0
    have hdt:=(hd t t0).trans (ak rfl);have amj:=(I.mem.dy t t0 t1).seq.1;refine Bt I t0 t1 hM (fun u u0 _ h=>by rw[hd u u0,af h];exact⟨rfl,rfl⟩) hH ?_ (by rw[<-hx];exact⟨rfl,rfl,rfl⟩) (fun u u0 _=>?_) hV
    . exact { ops:=by rw[<-hx];exact T.ops,pc:=by rw[<-hx];exact T.pc,on:=fun _=>by rw[<-hx];exact T.on ho,off:=fun e=>by rw[oG]at e;cases e
              got:=by rw[w7];exact hg'
              st:=.inr (.inl ⟨_,f9⟩)
              d7:=fun k hk=>by
                rw[f9,d9]at hk;subst hk;refine⟨⟨t0,t1⟩,⟨by dsimp only;omega,by dsimp only;rw[hdt];exact fh _⟩,⟨by dsimp only;omega,by dsimp only;omega⟩,⟨by dsimp only;omega,by dsimp only;omega⟩,fun _=>⟨by dsimp only;omega,by dsimp only;omega,fun _=>⟨rfl,fun i a b=>?_⟩,fun _ i a b=>?_⟩⟩
                . dsimp only at b;omega
                . dsimp only at b;omega
              own:=fun k hk _=>by
                rw[f9,d9]at hk;rw[hk,hdt]
              along:=fun _=>by rw[w7,LO];exact ue
              read:=fun _ e=>by rw[C0]at e;cases e
              plan:=fun _=>by rw[w7,LO,hdt];exact⟨p_,dz,rfl,rfl⟩ }
    . by_cases h:u=t
      . subst h
        rw[Vq];unfold m4;rw[show(cB (cI m (bJ m.1 u ((aq m.1 u).1+1,1,dI (aW (ai m u)) ((ai m u).2.2.2.1++[(q,cg R q,())]),eF (aW (ai m u)) ((ai m u).2.2.2.1++[(q,cg R q,())]),()))) u x).1=bJ m.1 u ((aq m.1 u).1+1,1,dI (aW (ai m u)) ((ai m u).2.2.2.1++[(q,cg R q,())]),eF (aW (ai m u)) ((ai m u).2.2.2.1++[(q,cg R q,())]),()) from rfl,hdt,af (fun z=>by have:=z.2;dsimp only at this;omega)]
      . unfold m4
        rw[show(cB (cI m (bJ m.1 t ((aq m.1 t).1+1,1,dI (aW (ai m t)) ((ai m t).2.2.2.1++[(q,cg R q,())]),eF (aW (ai m t)) ((ai m t).2.2.2.1++[(q,cg R q,())]),()))) t x).1=bJ m.1 t ((aq m.1 t).1+1,1,dI (aW (ai m t)) ((ai m t).2.2.2.1++[(q,cg R q,())]),eF (aW (ai m t)) ((ai m t).2.2.2.1++[(q,cg R q,())]),()) from rfl,hd u u0,af h,BE _ ⟨t0,t1⟩ u0,af h]
theorem Jn{m:aH}(I:Inv m):Inv (tick m) where
 n:=I.n
 time:=by have:=I.time;show 0<=m.2.2.1+1;omega
 mem:=I.mem.C8 (by show m.2.2.1<=m.2.2.1+1;omega)
 th:=I.th
 call:=I.call.same (by show m.2.2.1<=m.2.2.1+1;omega) (fun _ _ _=>⟨rfl,rfl,rfl,rfl⟩)
 rep:=I.rep
 first:=I.first
theorem akh{m:aH}(I:Inv m){t:Int}(t0:0<=t)(t1:t<m.2.1.length)(ho:(ai m t).2.2.1=false)(hp:(ai m t).2.1<(ai m t).1.length):Inv (pT (tick m) t):=by
 have T:=I.th t t0 t1;have Ar:=T.pc;have hoff:=T.off ho;have hop:dh (aW (ai m t))=true:=by unfold aW;rw[qv (show(ai m t).2.1.toNat<(ai m t).1.length by omega)];exact T.ops.2 _ (d_ _)
 have hl:(pT (tick m) t).2.1.length=m.2.1.length:=o7 _ _ _;have fK:∀u:Int,0<=u->ai (pT (tick m) t) u=if u=t then ((ai m t).1,(ai m t).2.1,true,(ai m t).2.2.2) else ai m u:=fun u u0=>qW (m:=(m.1,m.2.1,_)) ⟨t0,t1⟩ u0
 have hown:∀u:Int,0<=u->bD (ai (pT (tick m) t) u) u=bD (ai m u) u:=by
  intro u u0;rw[fK u u0];by_cases h:u=t
  .subst h;rw[ak rfl];rfl
  .rw[af h]
 have Ao:(ai m t).2.2.2=([],[],()):=Prod.ext hoff.1 (Prod.ext hoff.2 rfl);refine⟨by rw[hl];exact I.n,by have:=I.time;show 0<=m.2.2.1+1;omega,?_,?_,?_,?_,I.first⟩
 .rw[hl];refine(I.mem.C8 (by show m.2.2.1<=m.2.2.1+1;omega)).kW fun u u0 _=>?_;unfold bx;rw[hown u u0]
 .intro u u0 u1;rw[hl]at u1⊢;rw[fK u u0];by_cases h:u=t
  .subst h;rw[ak rfl,Ao];exact T.rest true (fun _=>hp)
  .rw[af h];exact I.th u u0 u1
 .rw[hl];have hb:=I.call.zp t0 t1 ho hop (by unfold m4;rw[af (fun z=>by rw[zU hoff.2]at z;cases z.1)]) (on':=fun u=>(ai (pT (tick m) t) u).2.2.1) (by rw[fK t t0,ak rfl]) (fun u u0 h=>by rw[fK u u0,af h]) I.time;refine(hb.same (fh _) fun u u0 u1=>⟨rfl,?_,?_,?_⟩)
  .rw[fK u u0];split
   .next h=>rw[h]
   .rfl
  .rw[fK u u0];split
   .next h=>rw[h];rfl
   .rfl
  .unfold m4;rw[hown u u0];rfl
 .obtain⟨R,h1,h2,h3⟩:=I.rep;refine⟨R,h1,?_,h3⟩;show iH (m.2.2.2.1++_) _ _ R;refine h2.same fun j hj=>?_;have hj':=I.call.gM j hj;rw[HK hj'.1,ak hj'.2.1];exact⟨rfl,rfl⟩
theorem S5{m:aH}(I:Inv m){t:Int}(t0:0<=t)(t1:t<m.2.1.length)(hp:(ai m t).2.1<(ai m t).1.length):Inv (vF m t):=by
 unfold vF;by_cases h1:(ai m t).2.2.1=false
 .rw[ak h1];exact akh I t0 t1 h1 hp
 rw[af h1];by_cases h2:(ai m t).2.2.2.2.1≠[]
 .rw[ak h2];exact acY (Jn I) t0 t1 h2
 .rw[af h2];refine S4 (Jn I) t0 t1 (by show(ai m t).2.2.1=true;simpa using h1) (by show(ai m t).2.2.2.2.1=[];simpa using h2) ?_;have:=(I.mem.dy t t0 t1).seq.2;show(aq m.1 t).1+1<=m.2.2.1+1;omega
abbrev BW:Ty:=(Ty.pair (Ty.int IntKind.i64) (Ty.pair (Ty.int IntKind.i64) (Ty.pair (Ty.sl (Ty.pair (Ty.int IntKind.i64) (Ty.pair (Ty.int IntKind.i64) (Ty.pair (Ty.int IntKind.i64) Ty.unit)))) (Ty.pair (Ty.pair (Ty.int IntKind.i64) (Ty.pair (Ty.sl (Ty.int IntKind.i64)) Ty.unit)) Ty.unit))))
theorem SV{D:Den ctx}{n:Nat}{c:a_}{K0:Int->Option ((Int×Unit)×Unit)}{K1:Option ((Int×Unit)×Unit)}{l:List (ny)}(hl:l.length<=1000000){f:ny->Bool}(hf:∀x∈l,gF ctx D c [bC.val BW x] Ty.bool=some (f x)) :
  ∀(m i:Nat),i<=l.length->l.length-i<m->((l.drop i).any f=false->Kf D n c K0 K1 m l (l.length:Int) (i:Int)=K1)/\
   ((l.drop i).any f=true->∃j:Nat,Kf D n c K0 K1 m l (l.length:Int) (i:Int)=K0 (j:Int))
 | 0,i,_,h2=>by omega
 | m+1,i,h1,h2=>by
  simp only[Kf,qez];by_cases h:i<l.length
  .have ih:=SV (n:=n) (K0:=K0) (K1:=K1) hl hf m (i+1) (by omega) (by omega);have e:=hf l[i] (d_ _);rw[qf (by omega),ix h,aG,d5,qv h,qu (by omega)];refine Eq.mpr (eg (fun z=>((List.drop i l).any f=false->qd z _=K1)/\((List.drop i l).any f=true->∃j:Nat,qd z _=K0 (j:Int))) e) ?_;rw[qc,tG h,uF];cases hx:f l[i]
   .rw[aM,qV];exact ih
   .rw[aG,uG];exact⟨fun q=>(by cases q),fun _=>⟨i,rfl⟩⟩
  .rw[qg (by omega),tH h];exact⟨fun _=>rfl,fun q=>(by simp at q)⟩
theorem ahU{X:Ext}(hX:fO X){n:Nat}(hn:W+2<=n){c:a_}{l:List (ny)}(hl:l.length<=1000000){f:ny->Bool}(hf:∀x∈l,gF ctx (DD X (n-2)) c [bC.val BW x] Ty.bool=some (f x)) :
  qd3 (DD X n) l c=some ((l.any f,()),()):=by
 obtain⟨n,rfl⟩:∃k,n=k+2:=⟨n-2,by omega⟩
 have hW:=dZ;rw[qod hX];simp only[qd5,qhm];rw[qqj hX];simp only[qfa,qff,qep];have key:=SV (D:=DD X n) (n:=n) (c:=c) (K0:=fun v=>qd9 (DD X n) n c v) (K1:=qea (DD X n) n c) hl hf n 0 (e7 _) (by omega);rw[jo]at key;rw[show(0:Int)=((0:Nat):Int) from rfl];cases hx:l.any f
 .rw[key.1 hx];simp[qea,qd]
 .obtain⟨j,hj⟩:=key.2 hx;rw[hj];simp[qd9,qd]
abbrev uZ:Ty:=(Ty.pair (Ty.int IntKind.i64) (Ty.pair (Ty.int IntKind.i64) (Ty.pair (Ty.int IntKind.i64) Ty.unit)))
theorem SY{D:Den ctx}{n:Nat}{c:a_}{K0:Int->Option ((Int×Unit)×Unit)}{K1:Option ((Int×Unit)×Unit)}{l:List (lK)}(hl:l.length<=1000000){f:lK->Bool}(hf:∀x∈l,gF ctx D c [bC.val uZ x] Ty.bool=some (f x)) :
  ∀(m i:Nat),i<=l.length->l.length-i<m->((l.drop i).any f=false->Ki D n c K0 K1 m l (l.length:Int) (i:Int)=K1)/\
   ((l.drop i).any f=true->∃j:Nat,Ki D n c K0 K1 m l (l.length:Int) (i:Int)=K0 (j:Int))
 | 0,i,_,h2=>by omega
 | m+1,i,h1,h2=>by
  simp only[Ki,qe5];by_cases h:i<l.length
  .have ih:=SY (n:=n) (K0:=K0) (K1:=K1) hl hf m (i+1) (by omega) (by omega);have e:=hf l[i] (d_ _);rw[qf (by omega),ix h,aG,d5,qv h,qu (by omega)];refine Eq.mpr (eg (fun z=>((List.drop i l).any f=false->qd z _=K1)/\((List.drop i l).any f=true->∃j:Nat,qd z _=K0 (j:Int))) e) ?_;rw[qc,tG h,uF];cases hx:f l[i]
   .rw[aM,qV];exact ih
   .rw[aG,uG];exact⟨fun q=>(by cases q),fun _=>⟨i,rfl⟩⟩
  .rw[qg (by omega),tH h];exact⟨fun _=>rfl,fun q=>(by simp at q)⟩
theorem Ri{X:Ext}(hX:fO X){n:Nat}(hn:W+2<=n){c:a_}{l:List (lK)}(hl:l.length<=1000000){f:lK->Bool}(hf:∀x∈l,gF ctx (DD X (n-2)) c [bC.val uZ x] Ty.bool=some (f x)) :
  VS (DD X n) l c=some ((l.any f,()),()):=by
 obtain⟨n,rfl⟩:∃k,n=k+2:=⟨n-2,by omega⟩
 have hW:=dZ;rw[qog hX];simp only[qd8,qhp];rw[qqm hX];simp only[qfd,qfi,qes];have key:=SY (D:=DD X n) (n:=n) (c:=c) (K0:=fun v=>qef (DD X n) n c v) (K1:=qeg (DD X n) n c) hl hf n 0 (e7 _) (by omega);rw[jo]at key;rw[show(0:Int)=((0:Nat):Int) from rfl];cases hx:l.any f
 .rw[key.1 hx];simp[qeg,qd]
 .obtain⟨j,hj⟩:=key.2 hx;rw[hj];simp[qef,qd]
abbrev Ce:Ty:=(Ty.pair (Ty.sl (Ty.pair (Ty.int IntKind.i64) (Ty.pair (Ty.int IntKind.i64) (Ty.pair (Ty.int IntKind.i64) Ty.unit)))) (Ty.pair (Ty.int IntKind.i64) (Ty.pair Ty.bool (Ty.pair (Ty.sl (Ty.pair (Ty.int IntKind.i64) (Ty.pair (Ty.int IntKind.i64) Ty.unit))) (Ty.pair (Ty.sl (Ty.pair (Ty.int IntKind.i64) (Ty.pair (Ty.int IntKind.i64) (Ty.pair (Ty.int IntKind.i64) (Ty.pair (Ty.int IntKind.i64) Ty.unit))))) Ty.unit)))))
theorem Tm{D:Den ctx}{n:Nat}{c:a_}{K0:Int->Option ((Int×Unit)×Unit)}{K1:Option ((Int×Unit)×Unit)}{l:List (cN)}(hl:l.length<=1000000){f:cN->Bool}(hf:∀x∈l,gF ctx D c [bC.val Ce x] Ty.bool=some (f x)) :
  ∀(m i:Nat),i<=l.length->l.length-i<m->((l.drop i).any f=false->Kn D n c K0 K1 m l (l.length:Int) (i:Int)=K1)/\
   ((l.drop i).any f=true->∃j:Nat,Kn D n c K0 K1 m l (l.length:Int) (i:Int)=K0 (j:Int))
 | 0,i,_,h2=>by omega
 | m+1,i,h1,h2=>by
  simp only[Kn,qwk];by_cases h:i<l.length
  .have ih:=Tm (n:=n) (K0:=K0) (K1:=K1) hl hf m (i+1) (by omega) (by omega);have e:=hf l[i] (d_ _);rw[qf (by omega),ix h,aG,d5,qv h,qu (by omega)];refine Eq.mpr (eg (fun z=>((List.drop i l).any f=false->qd z _=K1)/\((List.drop i l).any f=true->∃j:Nat,qd z _=K0 (j:Int))) e) ?_;rw[qc,tG h,uF];cases hx:f l[i]
   .rw[aM,qV];exact ih
   .rw[aG,uG];exact⟨fun q=>(by cases q),fun _=>⟨i,rfl⟩⟩
  .rw[qg (by omega),tH h];exact⟨fun _=>rfl,fun q=>(by simp at q)⟩
theorem alk{X:Ext}(hX:fO X){n:Nat}(hn:W+2<=n){c:a_}{l:List (cN)}(hl:l.length<=1000000){f:cN->Bool}(hf:∀x∈l,gF ctx (DD X (n-2)) c [bC.val Ce x] Ty.bool=some (f x)) :
  qh9 (DD X n) l c=some ((l.any f,()),()):=by
 obtain⟨n,rfl⟩:∃k,n=k+2:=⟨n-2,by omega⟩
 have hW:=dZ;rw[q5b hX];simp only[qmg,qy3];rw[q7t hX];simp only[qwl,qxk,qpq];have key:=Tm (D:=DD X n) (n:=n) (c:=c) (K0:=fun v=>qnb (DD X n) n c v) (K1:=qnc (DD X n) n c) hl hf n 0 (e7 _) (by omega);rw[jo]at key;rw[show(0:Int)=((0:Nat):Int) from rfl];cases hx:l.any f
 .rw[key.1 hx];simp[qnc,qd]
 .obtain⟨j,hj⟩:=key.2 hx;rw[hj];simp[qnb,qd]
abbrev CG:Ty:=(Ty.pair (Ty.int IntKind.i64) (Ty.pair (Ty.int IntKind.i64) (Ty.pair (Ty.int IntKind.i64) Ty.unit)))
theorem Og{D:Den ctx}{n:Nat}{c:a_}{K0:Int->Option ((Int×Unit)×Unit)}{K1:Option ((Int×Unit)×Unit)}{l:List (cL)}(hl:l.length<=1000000){f:cL->Bool}(hf:∀x∈l,gF ctx D c [bC.val CG x] Ty.bool=some (f x)) :
  ∀(m i:Nat),i<=l.length->l.length-i<m->((l.drop i).any f=false->Kj D n c K0 K1 m l (l.length:Int) (i:Int)=K1)/\
   ((l.drop i).any f=true->∃j:Nat,Kj D n c K0 K1 m l (l.length:Int) (i:Int)=K0 (j:Int))
 | 0,i,_,h2=>by omega
 | m+1,i,h1,h2=>by
  simp only[Kj,qf7];by_cases h:i<l.length
  .have ih:=Og (n:=n) (K0:=K0) (K1:=K1) hl hf m (i+1) (by omega) (by omega);have e:=hf l[i] (d_ _);rw[qf (by omega),ix h,aG,d5,qv h,qu (by omega)];refine Eq.mpr (eg (fun z=>((List.drop i l).any f=false->qd z _=K1)/\((List.drop i l).any f=true->∃j:Nat,qd z _=K0 (j:Int))) e) ?_;rw[qc,tG h,uF];cases hx:f l[i]
   .rw[aM,qV];exact ih
   .rw[aG,uG];exact⟨fun q=>(by cases q),fun _=>⟨i,rfl⟩⟩
  .rw[qg (by omega),tH h];exact⟨fun _=>rfl,fun q=>(by simp at q)⟩
theorem ajx{X:Ext}(hX:fO X){n:Nat}(hn:W+2<=n){c:a_}{l:List (cL)}(hl:l.length<=1000000){f:cL->Bool}(hf:∀x∈l,gF ctx (DD X (n-2)) c [bC.val CG x] Ty.bool=some (f x)) :
  qfn (DD X n) l c=some ((l.any f,()),()):=by
 obtain⟨n,rfl⟩:∃k,n=k+2:=⟨n-2,by omega⟩
 have hW:=dZ;rw[qrj hX];simp only[qfo,qi8];rw[quf hX];simp only[qgm,qgp,qfz];have key:=Og (D:=DD X n) (n:=n) (c:=c) (K0:=fun v=>qfp (DD X n) n c v) (K1:=qfq (DD X n) n c) hl hf n 0 (e7 _) (by omega);rw[jo]at key;rw[show(0:Int)=((0:Nat):Int) from rfl];cases hx:l.any f
 .rw[key.1 hx];simp[qfq,qd]
 .obtain⟨j,hj⟩:=key.2 hx;rw[hj];simp[qfp,qd]
abbrev BQ:Ty:=(Ty.pair (Ty.int IntKind.i64) (Ty.pair (Ty.int IntKind.i64) Ty.unit))
theorem SX{D:Den ctx}{n:Nat}{c:a_}{K0:Int->Option ((Int×Unit)×Unit)}{K1:Option ((Int×Unit)×Unit)}{l:List (Int×Int×Unit)}(hl:l.length<=1000000){f:Int×Int×Unit->Bool}(hf:∀x∈l,gF ctx D c [bC.val BQ x] Ty.bool=some (f x)) :
  ∀(m i:Nat),i<=l.length->l.length-i<m->((l.drop i).any f=false->Kh D n c K0 K1 m l (l.length:Int) (i:Int)=K1)/\
   ((l.drop i).any f=true->∃j:Nat,Kh D n c K0 K1 m l (l.length:Int) (i:Int)=K0 (j:Int))
 | 0,i,_,h2=>by omega
 | m+1,i,h1,h2=>by
  simp only[Kh,qe3];by_cases h:i<l.length
  .have ih:=SX (n:=n) (K0:=K0) (K1:=K1) hl hf m (i+1) (by omega) (by omega);have e:=hf l[i] (d_ _);rw[qf (by omega),ix h,aG,d5,qv h,qu (by omega)];refine Eq.mpr (eg (fun z=>((List.drop i l).any f=false->qd z _=K1)/\((List.drop i l).any f=true->∃j:Nat,qd z _=K0 (j:Int))) e) ?_;rw[qc,tG h,uF];cases hx:f l[i]
   .rw[aM,qV];exact ih
   .rw[aG,uG];exact⟨fun q=>(by cases q),fun _=>⟨i,rfl⟩⟩
  .rw[qg (by omega),tH h];exact⟨fun _=>rfl,fun q=>(by simp at q)⟩
theorem ahW{X:Ext}(hX:fO X){n:Nat}(hn:W+2<=n){c:a_}{l:List (Int×Int×Unit)}(hl:l.length<=1000000){f:Int×Int×Unit->Bool}(hf:∀x∈l,gF ctx (DD X (n-2)) c [bC.val BQ x] Ty.bool=some (f x)) :
  VN (DD X n) l c=some ((l.any f,()),()):=by
 obtain⟨n,rfl⟩:∃k,n=k+2:=⟨n-2,by omega⟩
 have hW:=dZ;rw[qof hX];simp only[qd7,qho];rw[qql hX];simp only[qfc,qfh,qer];have key:=SX (D:=DD X n) (n:=n) (c:=c) (K0:=fun v=>qed (DD X n) n c v) (K1:=qee (DD X n) n c) hl hf n 0 (e7 _) (by omega);rw[jo]at key;rw[show(0:Int)=((0:Nat):Int) from rfl];cases hx:l.any f
 .rw[key.1 hx];simp[qee,qd]
 .obtain⟨j,hj⟩:=key.2 hx;rw[hj];simp[qed,qd]
abbrev BP:Ty:=(Ty.pair (Ty.int IntKind.i64) (Ty.pair (Ty.int IntKind.i64) (Ty.pair (Ty.int IntKind.i64) (Ty.pair (Ty.int IntKind.i64) Ty.unit))))
theorem SW{D:Den ctx}{n:Nat}{c:a_}{K0:Int->Option ((Int×Unit)×Unit)}{K1:Option ((Int×Unit)×Unit)}{l:List (gx)}(hl:l.length<=1000000){f:gx->Bool}(hf:∀x∈l,gF ctx D c [bC.val BP x] Ty.bool=some (f x)) :
  ∀(m i:Nat),i<=l.length->l.length-i<m->((l.drop i).any f=false->Kg D n c K0 K1 m l (l.length:Int) (i:Int)=K1)/\
   ((l.drop i).any f=true->∃j:Nat,Kg D n c K0 K1 m l (l.length:Int) (i:Int)=K0 (j:Int))
 | 0,i,_,h2=>by omega
 | m+1,i,h1,h2=>by
  simp only[Kg,qe1];by_cases h:i<l.length
  .have ih:=SW (n:=n) (K0:=K0) (K1:=K1) hl hf m (i+1) (by omega) (by omega);have e:=hf l[i] (d_ _);rw[qf (by omega),ix h,aG,d5,qv h,qu (by omega)];refine Eq.mpr (eg (fun z=>((List.drop i l).any f=false->qd z _=K1)/\((List.drop i l).any f=true->∃j:Nat,qd z _=K0 (j:Int))) e) ?_;rw[qc,tG h,uF];cases hx:f l[i]
   .rw[aM,qV];exact ih
   .rw[aG,uG];exact⟨fun q=>(by cases q),fun _=>⟨i,rfl⟩⟩
  .rw[qg (by omega),tH h];exact⟨fun _=>rfl,fun q=>(by simp at q)⟩
theorem ahV{X:Ext}(hX:fO X){n:Nat}(hn:W+2<=n){c:a_}{l:List (gx)}(hl:l.length<=1000000){f:gx->Bool}(hf:∀x∈l,gF ctx (DD X (n-2)) c [bC.val BP x] Ty.bool=some (f x)) :
  VM (DD X n) l c=some ((l.any f,()),()):=by
 obtain⟨n,rfl⟩:∃k,n=k+2:=⟨n-2,by omega⟩
 have hW:=dZ;rw[qoe hX];simp only[qd6,qhn];rw[qqk hX];simp only[qfb,qfg,qeq];have key:=SW (D:=DD X n) (n:=n) (c:=c) (K0:=fun v=>qeb (DD X n) n c v) (K1:=qec (DD X n) n c) hl hf n 0 (e7 _) (by omega);rw[jo]at key;rw[show(0:Int)=((0:Nat):Int) from rfl];cases hx:l.any f
 .rw[key.1 hx];simp[qec,qd]
 .obtain⟨j,hj⟩:=key.2 hx;rw[hj];simp[qeb,qd]
theorem jT{x a b:Int}(h:a<=x/\x<=b):bw x a b=true:=lq.2 h
section
variable {X:Ext} (hX:fO X) {n:Nat}
include hX
theorem AS(hn:2<=n)(x:Int):Kr (DD X n) x=some ((bw x 0 1000,()),()):=by
 obtain⟨n,rfl⟩:∃k,n=k+1:=⟨n-1,by omega⟩
 rw[afA hX];simp only[qv0,q9c];rw[lI hX (by omega),qc]
theorem Nf(hn:2<=n)(x:Int):Wy (DD X n) x=some ((bw x 0 19,()),()):=by
 obtain⟨n,rfl⟩:∃k,n=k+1:=⟨n-1,by omega⟩
 rw[ahg hX];simp only[Zw,PA];rw[lI hX (by omega),qc]
theorem SG(hn:3<=n){w:lK}{th:Int}(h:UT w\/∃u s,0<=u/\u<th/\1<=s/\s<=1000000/\w=dM u s):q4l (DD X n) w th=some ((true,()),()):=by
 obtain⟨n,rfl⟩:∃k,n=k+1:=⟨n-1,by omega⟩
 rw[aiF hX];simp only[q4z,PN];rcases h with⟨h1,h2,h3,h4⟩ | ⟨u,s,h1,h2,h3,h4,e⟩
 .rw[qf h1,AS hX (by omega),qc];dsimp only;rw[jT ⟨h3,h4⟩,bA,bG h2]
 .have e1:w.1=0:=by rw[e];rfl
  have e2:w.2.1=u+1:=by rw[e];rfl
  have e3:w.2.2.1=s:=by rw[e];rfl
  rw[qg (by omega),qf e1,lI hX (by omega),qc];dsimp only;rw[jT ⟨by omega,by omega⟩,aG,lI hX (by omega),qc];dsimp only;rw[jT ⟨by omega,by omega⟩]
theorem Od(N n:Nat)(hN:2<=N)(K0:Bool->ny->Option ((Bool×Unit)×Unit))(K1:ny->Option ((Bool×Unit)×Unit)){d:ny}{time:Int}(h:ow d time):∀(m i:Nat),i<=d.2.2.1.length->d.2.2.1.length-i<m->
  Ug (DD X N) n K0 K1 m d.2.2.1 (d.2.2.1.length:Int) (i:Int) d=K1 d
 | 0,i,_,h2=>by omega
 | m+1,i,h1,h2=>by
  have hlen:=h.len;simp only[Ug,Zk];by_cases hi:i<d.2.2.1.length
  .have hr:=h.dQ _ (d_ hi);have ih:=Od N n hN K0 K1 h m (i+1) (by omega) (by omega);rw[qf (by omega),ix hi,aG,d5,qv hi,qu (by omega),Nf hX (by omega),qc];dsimp only;rw[jT ⟨hr.1.1,by omega⟩,cK,aM,AS hX (by omega),qc];dsimp only;rw[jT hr.2.1,cK,aM,AS hX (by omega),qc];dsimp only;rw[jT hr.2.2,cK,aM];by_cases h0:i=0
   .rw[qg (by omega)];exact ih
   .have e:wrap .i64 ((i:Int)-1)=((i-1:Nat):Int):=by rw[qs (by omega) (by omega)];omega
    have hlt:i-1<d.2.2.1.length:=by omega
    have oT:=yl.1 h.z7 (i-1) i hlt hi (by omega);rw[qf (by omega),e,ix hlt,aG,d5,qv hlt,qg (by omega)];exact ih
  .rw[qg (by omega)]
theorem aci(hn:W+3<=n){d:ny}{time:Int}(h:ow d time)(ht:time<=1000000):q4j (DD X n) d=some ((true,()),()):=by
 obtain⟨n,rfl⟩:∃k,n=k+1:=⟨n-1,by omega⟩
 have hW:=dZ;have hlen:=h.len;have hs:=h.seq;rw[aiA hX];simp only[q4u,q5c,qyc];by_cases h0:d.1=0
 .rw[qf h0,h.st.1 h0];simp[dD]
 .have hst:=h.st.2 (by omega);have hL:=Od hX n n (by omega) (fun bS dV=>q8w (DD X n) n bS dV) (fun sV=>qv8 (DD X n) n sV) h n 0 (e7 _) (by omega);rw[show((0:Nat):Int)=0 from rfl]at hL;rw[qg h0,hL];simp only[qv8];rw[lI hX (by omega),qc];dsimp only;rw[jT ⟨by omega,by omega⟩,aG,lI hX (by omega),qc];dsimp only;rw[jT hst,bA,bG (by omega)]
theorem OM(D:Den ctx)(n:Nat)(K0:Bool->eB->Option ((eB×Bool×Unit)×Unit))(K1:eB->Option ((eB×Bool×Unit)×Unit))(p:Int)(l:List eB)(hl:l.length<=1000)(z:eB):∀(m i:Nat),i<=l.length->l.length-i<m->
  TY D n K0 K1 m p l (l.length:Int) (i:Int) z=match (l.drop i).find? (fun e=>decide (e.1=p)) with | some e=>K0 true e | none=>K1 z
 | 0,i,_,h2=>by omega
 | m+1,i,h1,h2=>by
  simp only[TY,qye];by_cases hi:i<l.length
  .have ih:=OM D n K0 K1 p l hl z m (i+1) (by omega) (by omega);rw[qf (by omega),ix hi,aG,d5,qv hi,qu (by omega),tG hi,List.find?_cons];by_cases h:l[i].1=p
   .rw[qf h,bG h]
   .rw[qg h,b_ h];exact ih
  .rw[qg (by omega),tH hi];rfl
theorem RH(hn:W+1<=n)(d:ny)(hl:d.2.2.1.length<=1000)(p:Int):Wv (DD X n) d p=some ((jI d.2.2.1 p,d.2.2.1.any (fun e:eB=>decide (e.1=p)),()),()):=by
 obtain⟨n,rfl⟩:∃k,n=k+1:=⟨n-1,by omega⟩
 have hW:=dZ;rw[ahB hX];simp only[YX,Zl,qv9];have hL:=OM (X:=X) hX (DD X n) n (fun bS dV=>q6b (DD X n) n bS dV) (fun sV=>q6c (DD X n) n sV) p d.2.2.1 hl (0,0,0,()) n 0 (e7 _) (by omega);rw[show((0:Nat):Int)=0 from rfl]at hL;rw[hL,jo];unfold jI;cases hf:d.2.2.1.find? (fun e:eB=>decide (e.1=p)) with
 | none=>
  have:(d.2.2.1.any fun e:eB=>decide (e.1=p))=false:=by rw[BY];rw[List.find?_eq_none]at hf;exact hf
  rw[this];rfl
 | some e=>
  have:(d.2.2.1.any fun e:eB=>decide (e.1=p))=true:=by rw[IU];exact⟨e,List.mem_of_find?_eq_some hf,List.find?_some (p:=fun e:eB=>decide (e.1=p)) hf⟩
  rw[this];rfl
theorem acQ(hn:W+4<=n)(d:ny){time:Int}(h:ow d time)(ht:time<=1000000):gF ctx (DD X n) (a_.mk 110 []) [bC.val BW d] Ty.bool=some false:=by
 obtain⟨n,rfl⟩:∃k,n=k+1:=⟨n-1,by omega⟩
 have e:∀D:Den ctx,gF ctx D (a_.mk 110 []) [bC.val BW d] Ty.bool=(Pk D d).bind fun r=>some r.1.1:=fun D=>by kernel_rfl
 rw[e,ahF hX];simp only[Y1,Pb];rw[aci hX (by omega) h ht,qc];rfl
theorem NO(N n:Nat)(hN:W+3<=N)(K0:Bool->Option ((Bool×Unit)×Unit))(K1:Option ((Bool×Unit)×Unit)){m:aU}{k:Nat}{time:Int}{own:Int->Prop}(I:eY m k time own)(ht:time<=1000000)(hk:k<=4):∀(c i:Nat),i<=m.1.length->m.1.length-i<c->
  Um (DD X N) n K0 K1 c m.1 (m.1.length:Int) (i:Int) m=K1
 | 0,i,_,h2=>by omega
 | c+1,i,h1,h2=>by
  have hlen:=I.len;have hd:=I.dw;simp only[Um,q5i];by_cases hi:i<m.1.length
  .have ih:=NO N n hN K0 K1 I ht hk c (i+1) (by omega) (by omega);have hw:wd m (i:Int)=m.1[i]:=by unfold wd;rw[d5,qv hi]
   have oI:=I.word (i:Int) (by omega) (by omega);unfold BI at oI;rw[hw]at oI;rw[qf (by omega),ix hi,aG,d5,qv hi,qu (by omega)];rcases oI with h | ⟨u,u0,u1,uo,e,j,j0,j1,je⟩
   .rw[SG hX (by omega) (.inl h),qc];dsimp only;rw[cK,aM,qf h.1];exact ih
   .have hs:=I.kX u u0 u1 uo;have Vl:=(I.dy u u0 u1).seq;have mu:=(I.dy u u0 u1).len;have e2:(m.1[i]).2.1=u+1:=by rw[e];rfl
    have e3:(m.1[i]).2.2.1=(aq m u).1:=by rw[e];rfl
    rw[SG hX (by omega) (.inr ⟨u,_,u0,by omega,hs,by omega,e⟩),qc];dsimp only;have e1:wrap .i64 ((m.1[i]).2.1-1)=u:=by rw[qs (by omega) (by omega)];omega
    rw[cK,aM,qg (by omega),e1,fP u0 (by omega),aG];have Ah:m.2.1.getD u.toNat (0,0,[],(0,[],()),())=aq m u:=rfl;rw[Ah,RH hX (by omega) _ (by omega),qc];dsimp only;have uf:((aq m u).2.2.1.any fun e:eB=>decide (e.1=(i:Int)))=true:=by rw[IU];exact⟨_,Mv j0 j1,by rw[gT];exact je⟩
    rw[uf,cK,bg,bL,bG e3.symm,cK,aM];exact ih
  .rw[qg (by omega)]
theorem uK(hn:W+7<=n){m:aU}{k:Nat}{time:Int}{own:Int->Prop}(I:eY m k time own)(ht:time<=1000000)(h1:1<=k)(hk:k<=4):Dp (DD X n) m=some ((true,()),()):=by
 obtain⟨n,rfl⟩:∃k,n=k+1:=⟨n-1,by omega⟩
 have hW:=dZ;have hlen:=I.len;have hd:=I.dw;rw[ajq hX];simp only[q77,q8z,Zq];have XA:∀x∈m.2.1,ow x time:=by intro x hx;obtain⟨j,hj,rfl⟩:=lG.1 hx;have:=I.dy (j:Int) (by omega) (by omega);unfold aq at this;rw[d5,qv hj]at this;exact this
 rw[show((m.1.length:Int) != 20)=false by rw[bL,bG (by omega)];rfl,aM,lI hX (by omega),qc];dsimp only;rw[jT ⟨by omega,by omega⟩,cK,aM,ahU hX (by omega) (by omega) (f:=fun _=>false) (fun x hx=>acQ hX (by omega) x (XA x hx) ht),qc];dsimp only;rw[show(m.2.1.any fun _=>false)=false by simp,aM];have hL:=NO hX n n (by omega) (fun bS=>O0 (DD X n) n bS) (O1 (DD X n) n) I ht hk n 0 (e7 _) (by omega);rw[show((0:Nat):Int)=0 from rfl]at hL;rw[hL];rfl
end
def g9(l:List gi)(t:Int):Nat->Int
 | 0=>0
 | i+1=>g9 l t i+if (l.getD i dC).1=t/\(l.getD i dC).2.2.2.2.1>=0 then 1 else 0
def gu(l:List gi)(t:Int):Nat->Int
 | 0=>0
 | i+1=>gu l t i+if (l.getD i dC).1=t/\¬ (l.getD i dC).2.2.2.2.1>=0 then 1 else 0
def zJ(l:List gi)(t:Int):Nat->Int
 | 0=>-1
 | i+1=>if (l.getD i dC).1=t then (i:Int) else zJ l t i
def m8(l:List gi):Nat->Int
 | 0=>0
 | i+1=>m8 l i+if (l.getD i dC).2.2.2.1>=0 then 1 else 0
theorem GR(l:List gi)(t:Int):∀i,i<=l.length->g9 l t i=(wA (l.take i) t:Int)
 | 0,_=>by simp[g9,wA]
 | i+1,h=>by
  have hi:i<l.length:=by omega
  simp only[g9];rw[GR l t i (by omega),mR hi,Rn,qv hi];by_cases q:l[i].1=t/\0<=l[i].2.2.2.2.1
  .rw[ak q,ak q];omega
  .rw[af q,af q];omega
theorem tF(l:List gi)(i:Nat):ay l (i:Int)=l.getD i dC:=by unfold ay;rw[d5]
theorem xS(l:List gi)(t:Int):∀i,0<=g9 l t i/\g9 l t i<=i/\0<=gu l t i/\gu l t i<=i/\0<=m8 l i/\m8 l i<=i/\-1<=zJ l t i/\zJ l t i<i
 | 0=>by simp[g9,gu,m8,zJ]
 | i+1=>by
  have:=xS l t i;simp only[g9,gu,m8,zJ];refine⟨?_,?_,?_,?_,?_,?_,?_,?_⟩<;>split<;>omega
section
variable {l:List gi} {ord:List Int} {n:Nat} {time:Int} {on:Int->Bool} {pc:Int->Int} {op:Int->cL} {yes:Int->Option fC} (I:gn l ord n time on pc op yes)
include I
theorem GY{t k:Int}(hk:f7 l t k):∀i,i<=l.length->k<i->zJ l t i=k/\gu l t i=1
 | 0,_,h=>by have:=hk.dQ;omega
 | i+1,hi,h=>by
  simp only[zJ,gu];have hr:=hk.dQ;by_cases e:k=(i:Int)
  .have h1:=hk.t;have h2:=hk.fin;rw[e,tF]at h1 h2;rw[ak h1,ak ⟨h1,by omega⟩];refine⟨e.symm,?_⟩;have key:∀j,j<=i->gu l t j=0:=by
    intro j
    induction j with
    | zero=>intro _;rfl
    | succ j ih=>
     intro hj;simp only[gu];rw[ih (by omega),af]
     .rfl
     .rintro⟨q1,q2⟩;have hf:=(I.c (j:Int) (by omega) (by omega)).fin;rw[tF]at hf;have:=I.uniq (t:=t) (i:=(j:Int)) ⟨⟨by omega,by omega⟩,by rw[tF];exact q1,by rw[tF];omega⟩ hk;omega
   rw[key i (ct _)];rfl
  .obtain⟨i1,i2⟩:=GY hk i (by omega) (by omega);have hne:¬ (l.getD i dC).1=t:=by intro q;have:=(I.before k (i:Int) hr.1 (by omega) (by omega) (by rw[hk.t,tF];exact q.symm)).1;have:=hk.fin;omega
   rw[af hne,af (fun q=>hne q.1),i1,i2];exact⟨rfl,rfl⟩
theorem G6{t:Int}(h:∀k:Int,0<=k->k<l.length->(ay l k).1=t->0<=(ay l k).2.2.2.2.1):∀i,i<=l.length->gu l t i=0
 | 0,_=>rfl
 | i+1,hi=>by
  simp only[gu];rw[G6 h i (by omega),af]
  .rfl
  .rintro⟨q1,q2⟩;have:=h (i:Int) (by omega) (by omega) (by rw[tF];exact q1);rw[tF]at this;exact q2 this
theorem SK:m8 l l.length=ord.length:=by
 have key:∀i,m8 l i=((((List.range i).filter fun j=>decide (0<=(l.getD j dC).2.2.2.1)).map fun j:Nat=>(j:Int)).length:Int):=by
  intro i
  induction i with
  | zero=>rfl
  | succ i ih=>
   simp only[m8];rw[ih,List.range_succ,List.filter_append,pI,cV];by_cases h:0<=(l.getD i dC).2.2.2.1
   .rw[ak h,show [i].filter (fun j=>decide (0<=(l.getD j dC).2.2.2.1))=[i] by rw[AK,bG h];rfl];rfl
   .rw[af h,show [i].filter (fun j=>decide (0<=(l.getD j dC).2.2.2.1))=[] by rw[AK,b_ h];rfl];rfl
 rw[key];have hp:(((List.range l.length).filter fun j=>decide (0<=(l.getD j dC).2.2.2.1)).map fun j:Nat=>(j:Int)).Perm ord:=by
  rw[NY ?_ I.nodup]
  .intro a;simp only[eI,List.mem_filter,yz,gT];constructor
   .rintro⟨j,⟨h1,h2⟩,rfl⟩;exact I.all (j:Int) (by omega) (by omega) (by rw[tF];exact h2)
   .intro ha;have:=I.gM a ha;refine⟨a.toNat,⟨by omega,?_⟩,by omega⟩;have h3:=this.2.2;unfold ay at h3;exact h3
  .rw[List.Nodup,List.pairwise_map];exact(List.nodup_range.filter _).imp fun {a b} h q=>h (by omega)
 rw[hp.length_eq]
theorem abP(hn:n<=3)(hp:∀t:Int,0<=t->t<n->pc t<=4):l.length<=15:=by
 have hO:∀t:Int,0<=t->t<n->gu l t l.length<=1:=by
  intro t t0 t1;cases ho:on t with
  | true=>obtain⟨k,hk,_⟩:=I.jQ t t0 t1 ho;rw[(GY I hk l.length (ct _) (by have:=hk.dQ;omega)).2];exact fh _
  | false=>rw[G6 I (I.off t t0 t1 ho) l.length (ct _)];decide
 have hE:∀t:Int,0<=t->t<n->g9 l t l.length<=4:=by intro t t0 t1;rw[GR l t l.length (ct _),AO,I.cnt t t0 t1];exact hp t t0 t1
 have hz:∀(t:Int),¬ (0<=t/\t<n)->∀i,i<=l.length->g9 l t i+gu l t i=0:=by
  intro t ht i
  induction i with
  | zero=>intro _;rfl
  | succ i ih=>intro hi;have:=(I.c (i:Int) (by omega) (by omega)).t;rw[tF]at this;simp only[g9,gu];rw[af (fun q=>ht (by rw[<-q.1];exact this)),af (fun q=>ht (by rw[<-q.1];exact this))];have:=ih (by omega);omega
 have hs:∀i,i<=l.length->(i:Int)=(g9 l 0 i+gu l 0 i)+(g9 l 1 i+gu l 1 i)+(g9 l 2 i+gu l 2 i):=by
  intro i
  induction i with
  | zero=>intro _;rfl
  | succ i ih=>
   intro hi;have h1:=(I.c (i:Int) (by omega) (by omega)).t;rw[tF]at h1;have h2:=ih (by omega);have one:∀t:Int,g9 l t (i+1)+gu l t (i+1)=g9 l t i+gu l t i+if (l.getD i dC).1=t then 1 else 0:=by
    intro t;simp only[g9,gu];by_cases a:(l.getD i dC).1=t
    .by_cases b:(l.getD i dC).2.2.2.2.1>=0
     .rw[ak ⟨a,b⟩,af (fun q=>q.2 b),ak a];omega
     .rw[af (fun q=>b q.2),ak ⟨a,b⟩,ak a];omega
    .rw[af (fun q=>a q.1),af (fun q=>a q.1),af a];omega
   rw[one 0,one 1,one 2];have h3:(l.getD i dC).1=0\/(l.getD i dC).1=1\/(l.getD i dC).1=2:=by omega
   rcases h3 with e | e | e
   .rw[ak e,af (by omega),af (by omega)];omega
   .rw[af (by omega),ak e,af (by omega)];omega
   .rw[af (by omega),af (by omega),ak e];omega
 have hall:∀t:Int,g9 l t l.length+gu l t l.length<=5:=by
  intro t;by_cases h:0<=t/\t<n
  .have:=hO t h.1 h.2;have:=hE t h.1 h.2;omega
  .rw[hz t h l.length (ct _)];decide
 have:=hs l.length (ct _);have:=hall 0;have:=hall 1;have:=hall 2
 omega
end
section
variable {X:Ext} (hX:fO X) {n:Nat}
include hX
theorem ale(hn:6<=n)(o:cL)(h:dh o=true):gF ctx (DD X n) (a_.mk 121 []) [bC.val CG o] Ty.bool=some false:=by
 obtain⟨n,rfl⟩:∃k,n=k+1:=⟨n-1,by omega⟩
 have e:∀D:Den ctx,gF ctx D (a_.mk 121 []) [bC.val CG o] Ty.bool=(q54 D o).bind fun r=>some r.1.1:=fun D=>by kernel_rfl
 obtain⟨a,b,c,⟨⟩⟩:=o;rw[e,ae8 hX];simp only[qt6,q6i];rw[UE hX (by omega),h,qc];rfl
theorem acC(hn:3<=n)(g:Int×Int×Unit)(h:(0<=g.1/\g.1<20)/\0<=g.2.1/\g.2.1<=1000):gF ctx (DD X n) (a_.mk 123 []) [bC.val BQ g] Ty.bool=some false:=by
 obtain⟨n,rfl⟩:∃k,n=k+1:=⟨n-1,by omega⟩
 have e:∀D:Den ctx,gF ctx D (a_.mk 123 []) [bC.val BQ g] Ty.bool=(q55 D g).bind fun r=>some r.1.1:=fun D=>by kernel_rfl
 rw[e,ae9 hX];simp only[qt7,q6j];rw[Nf hX (by omega),qc];dsimp only;rw[jT ⟨h.1.1,by omega⟩,cK,aM,AS hX (by omega),qc];dsimp only;rw[jT h.2];rfl
theorem acV(hn:2<=n)(k:gx)(th:Int)(xx:0<=th/\th<=100)(h1:0<=k.1/\k.1<th)(h2:1<=k.2.1/\k.2.1<=1000000)(h3:0<=k.2.2.1/\k.2.2.1<=20)(h4:0<=k.2.2.2.1/\k.2.2.2.1<=20) :
  gF ctx (DD X n) (a_.mk 127 [bC.cq (Ty.int IntKind.i64) th]) [bC.val BP k] Ty.bool=some false:=by
 obtain⟨n,rfl⟩:∃k,n=k+1:=⟨n-1,by omega⟩
 have e:∀D:Den ctx,gF ctx D (a_.mk 127 [bC.cq (Ty.int IntKind.i64) th]) [bC.val BP k] Ty.bool=(q56 D k th).bind fun r=>some r.1.1:=fun D=>by kernel_rfl
 rw[e,ae_ hX];simp only[qt8,q6k];rw[qs (by omega) (by omega),lI hX (by omega),qc];dsimp only;rw[jT ⟨h1.1,by omega⟩,cK,aM,lI hX (by omega),qc];dsimp only;rw[jT h2,cK,aM,lI hX (by omega),qc];dsimp only;rw[jT h3,cK,aM,lI hX (by omega),qc];dsimp only;rw[jT h4];rfl
theorem z6{α:Type}(l:List α):(l.any fun _=>false)=false:=by simp
theorem ajS{m:aU}{k:Nat}{x:cN}{t:Int}(T:jt m k x t):∀g∈x.2.2.2.1,(0<=g.1/\g.1<20)/\0<=g.2.1/\g.2.1<=1000:=by
 intro g hg;have hv:=T.got g hg;cases ho:x.2.2.1 with
 | false=>rw[(T.off ho).1]at hg;simp at hg
 | true=>exact⟨(KG (T.op ho) T.got (T.along ho)).2.1 _ (eI.2 ⟨g,hg,rfl⟩),by omega⟩
theorem Ik{m:aU}{k:Nat}{x:cN}{t:Int}(T:jt m k x t):x.2.2.2.1.length<=8:=by
 cases ho:x.2.2.1 with
 | false=>rw[(T.off ho).1];simp
 | true=>exact(KG (T.op ho) T.got (T.along ho)).2.2
theorem Iq{m:aU}{k:Nat}{x:cN}{t:Int}(T:jt m k x t):x.2.2.2.2.1.length<=2:=by rcases T.st with e | ⟨h,e⟩ | ⟨h,h',e,_⟩<;>rw[e]<;>simp
theorem aaQ(hn:W+9<=n){m:aU}{k:Nat}{x:cN}{t:Int}(T:jt m k x t)(hk:k<=3)(hs:∀u:Int,0<=u->u<k->(aq m u).1<=1000000):qxn (DD X n) x (k:Int)=some ((true,()),()):=by
 obtain⟨n,rfl⟩:∃k,n=k+1:=⟨n-1,by omega⟩
 have hW:=dZ;have h1:=T.ops;have h2:=T.pc;have h3:=Ik hX T;have h4:=Iq hX T;rw[agw hX];simp only[qxx,O2];have aZ:qd (VN (DD X n) x.2.2.2.1 (a_.mk 123 [])) (fun b=>br b.1.1 (some ((false,()),())) (qd (VM (DD X n) x.2.2.2.2.1 (a_.mk 127 [bC.cq (Ty.int IntKind.i64) (k:Int)])) fun b=>some ((!b.1.1,()),())))=some ((true,()),()):=by
  rw[ahW hX (by omega) (show List.length x.2.2.2.1<=1000000 by omega) (f:=fun _=>false) (fun g hg=>acC hX (by omega) g (ajS hX T g hg)),qc];dsimp only;rw[z6 hX,aM,ahV hX (by omega) (by omega) (f:=fun _=>false) (fun q hq=>by
   have H:=T.d7 q hq;have:=hs q.1 H.t.1 H.t.2;have:=H.seq;have:=H.r7;have:=H.fin;exact acV hX (by omega) q k (by omega) H.t (by omega) (by omega) (by omega)),qc]
  dsimp only;rw[z6 hX];rfl
 rw[qg (by omega),ajx hX (by omega) (by omega) (f:=fun _=>false) (fun o ho=>ale hX (by omega) o (h1.2 o ho)),qc];dsimp only;rw[z6 hX,aM,lI hX (by omega),qc];dsimp only;rw[jT h2,cK,bg];cases ho:x.2.2.1 with
 | true=>have:=T.on ho;rw[bA,b_ (by omega),bg,b_ (by omega),bg,b_ (by omega),aM,cK,aM];exact aZ
 | false=>have:=T.off ho;rw[bg,bg,b_ (by omega),bg,b_ (by omega),aM,iP,aG,qg (by rw[this.1,this.2];decide)];exact aZ
theorem Ns(D:Den ctx)(n:Nat)(K:Int->Int->Int->aH->cN->Option ((Bool×Unit)×Unit))(t:Int)(l:List gi)(hl:l.length<=1000)(m:aH)(x:cN):∀(c i:Nat),i<=l.length->l.length-i<c->
  T8 D n K c t (zJ l t i) (g9 l t i) (gu l t i) l (l.length:Int) (i:Int) m x=K (zJ l t l.length) (g9 l t l.length) (gu l t l.length) m x
 | 0,i,_,h2=>by omega
 | c+1,i,h1,h2=>by
  have hr:=xS l t i;simp only[T8,qyw];by_cases hi:i<l.length
  .have ih:=Ns D n K t l hl m x c (i+1) (by omega) (by omega);simp only[zJ,g9,gu]at ih;rw[qf (by omega),ix hi,aG,d5,qu (by omega)];have hd:l.getD i (0,(0,0,0,()),0,0,0,(0,[],()),())=l.getD i dC:=rfl;rw[hd];by_cases a:(l.getD i dC).1=t
   .rw[show((l.getD i dC).1 != t)=false by rw[bL,bG a];rfl,aM];rw[ak a]at ih;by_cases b:(l.getD i dC).2.2.2.2.1>=0
    .rw[qf b,qs (by omega) (by omega)];rw[ak ⟨a,b⟩,af (fun q=>q.2 b),xO]at ih;exact ih
    .rw[qg b,qs (by omega) (by omega)];rw[af (fun q=>b q.2),ak ⟨a,b⟩,xO]at ih;exact ih
   .rw[show((l.getD i dC).1 != t)=true by rw[bL,b_ a];rfl,aG];rw[af a,af (fun q=>a q.1),af (fun q=>a q.1),xO,xO]at ih;exact ih
  .rw[qg (by omega),show i=l.length by omega]
theorem Xb(o:cL):pP (Ty.pair (Ty.int IntKind.i64) (Ty.pair (Ty.int IntKind.i64) (Ty.pair (Ty.int IntKind.i64) Ty.unit))) o o=true:=by obtain⟨a,b,c,⟨⟩⟩:=o;simp[pP]
theorem abF(hn:W+1<=n){m:aH}(I:Inv m){t:Int}(t0:0<=t)(t1:t<m.2.1.length)(hl:m.2.2.2.1.length<=1000):Y8 (DD X n) m t=some ((true,()),()):=by
 obtain⟨n,rfl⟩:∃k,n=k+1:=⟨n-1,by omega⟩
 have hW:=dZ;have T:=I.th t t0 t1;rw[ahJ hX];simp only[Zr,ZX,qwf];have hL:=Ns hX (DD X n) n (fun bS dV iY jB zi=>qur (DD X n) n bS dV iY jB zi) t m.2.2.2.1 hl m (ai m t) n 0 (e7 _) (by omega);have hx:m.2.1.getD t.toNat ([],0,false,[],[],())=ai m t:=rfl;rw[fP t0 t1,aG,hx];refine dj hL ?_;have hE:g9 m.2.2.2.1 t m.2.2.2.1.length=(ai m t).2.1:=by rw[GR _ _ _ (ct _),AO];exact I.call.cnt t t0 t1
 simp only[qur];rw[hE,bL,bG rfl,cK,aM];cases ho:(ai m t).2.2.1 with
 | false=>rw[iP,aG,G6 I.call (I.call.off t t0 t1 ho) _ (ct _)];rfl
 | true=>obtain⟨k,hk,hop⟩:=I.call.jQ t t0 t1 ho;have hr:=hk.dQ;obtain⟨e1,e2⟩:=GY I.call hk _ (ct _) (by omega);have hp:=T.on ho;have LS:=T.pc.1;have hd:m.2.2.2.1.getD k.toNat (0,(0,0,0,()),0,0,0,(0,[],()),())=ay m.2.2.2.1 k:=rfl;have n5:(ai m t).1.getD (ai m t).2.1.toNat (0,0,0,())=aW (ai m t):=rfl;rw[cK,aM,e1,e2,bG (show k>=0 from hr.1),bA,qf rfl,zK,bG hr.2,aG,hd,qf hk.fin,aG,fP LS hp,aG,hop,n5,Xb hX]
theorem SQ(D:Den ctx)(n:Nat)(K:Int->aH->Option ((Bool×Unit)×Unit))(l:List gi)(hl:l.length<=1000)(m:aH):∀(c i:Nat),i<=l.length->l.length-i<c->
  T_ D n K c (m8 l i) l (l.length:Int) (i:Int) m=K (m8 l l.length) m
 | 0,i,_,h2=>by omega
 | c+1,i,h1,h2=>by
  have hr:=xS l 0 i;simp only[T_,qy1];by_cases hi:i<l.length
  .have ih:=SQ D n K l hl m c (i+1) (by omega) (by omega);simp only[m8]at ih;rw[qf (by omega),ix hi,aG,d5,qu (by omega)];have hd:l.getD i (0,(0,0,0,()),0,0,0,(0,[],()),())=l.getD i dC:=rfl;rw[hd];by_cases a:(l.getD i dC).2.2.2.1>=0
   .rw[qf a,qs (by omega) (by omega)];rw[ak a]at ih;exact ih
   .rw[qg a];rw[af a,xO]at ih;exact ih
  .rw[qg (by omega),show i=l.length by omega]
theorem SR(N n:Nat)(hN:W+2<=N)(K0:Bool->Int->aH->Option ((Bool×Unit)×Unit))(K1:Int->aH->Option ((Bool×Unit)×Unit))(z:Int){m:aH}(I:Inv m)(hl:m.2.2.2.1.length<=1000)(Aq:m.2.2.2.2.1.length<=1000):∀(c i:Nat),i<=m.2.2.2.2.1.length->m.2.2.2.2.1.length-i<c->
  Ua (DD X N) n K0 K1 c z m.2.2.2.2.1 (m.2.2.2.2.1.length:Int) (i:Int) m=K1 z m
 | 0,i,_,h2=>by omega
 | c+1,i,h1,h2=>by
  simp only[Ua,qy2];by_cases hi:i<m.2.2.2.2.1.length
  .have ih:=SR N n hN K0 K1 z I hl Aq c (i+1) (by omega) (by omega);have hk:=I.call.gM _ (d_ hi);rw[qf (by omega),ix hi,aG,d5,qv hi,qu (by omega),qs (by omega) (by omega),lI hX (by omega),qc];dsimp only;have hd:∀k:Int,m.2.2.2.1.getD k.toNat (0,(0,0,0,()),0,0,0,(0,[],()),())=ay m.2.2.2.1 k:=fun _=>rfl;have hni:m.2.2.2.2.1[i]∉List.drop (0:Int).toNat (List.take i m.2.2.2.2.1):=by rw[show(0:Int).toNat=0 from rfl,jo];intro q;obtain⟨j,hj,e⟩:=lG.1 q;rw[eH]at hj;rw[IT]at e;have:=yl.1 I.call.nodup j i (by omega) hi (by omega);exact this e
   rw[jT ⟨hk.1,by omega⟩,cK,aM,fP hk.1 hk.2.1,aG,hd,qg (by omega),
    show(decide ((0:Nat)<=0)&&decide (0<=(i:Int))&&decide ((i:Int)<=(m.2.2.2.2.1.length:Int)))=true by simp;omega,aG,QJ hX (by omega) _ (by simp;omega) _ hni,qc]
   dsimp only;rw[aM];by_cases h0:i=0
   .rw[qg (by omega)];exact ih
   .have e:wrap .i64 ((i:Int)-1)=((i-1:Nat):Int):=by rw[qs (by omega) (by omega)];omega
    have hlt:i-1<m.2.2.2.2.1.length:=by omega
    have hk2:=I.call.gM _ (d_ hlt);have hs:=yl.1 I.call.sort (i-1) i hlt hi (by omega);rw[qf (by omega),e,ix hlt,aG,d5,qv hlt,fP hk2.1 hk2.2.1,aG,aG,hd,qg (by omega)];exact ih
  .rw[qg (by omega)]
theorem abt(hn:W+3<=n){m:aH}(I:Inv m)(hl:m.2.2.2.1.length<=1000):Y9 (DD X n) m=some ((true,()),()):=by
 obtain⟨n,rfl⟩:∃k,n=k+1:=⟨n-1,by omega⟩
 have hW:=dZ;have ho:=SK I.call;have hr:=xS m.2.2.2.1 0 m.2.2.2.1.length;have Aq:m.2.2.2.2.1.length<=1000:=by omega
 rw[ahh hX];simp only[Zx,ZZ,qwh];refine dj (SQ hX (DD X n) n _ m.2.2.2.1 hl m n 0 (e7 _) (by omega)) ?_;simp only[qut,qwi];refine dj (SR hX n n (by omega) _ _ _ I hl Aq n 0 (e7 _) (by omega)) ?_;simp only[q6r];rw[ho,bG rfl]
theorem NM(N n:Nat)(hN:6<=N)(K0:Bool->Int->aH->Option ((Bool×Unit)×Unit))(K1:Int->aH->Option ((Bool×Unit)×Unit)){m:aH}(I:Inv m)(hl:m.2.2.2.1.length<=1000):∀(c i:Nat),i<=m.2.2.2.1.length->m.2.2.2.1.length-i<c->
  TN (DD X N) n K0 K1 c (m.2.1.length:Int) m.2.2.2.1 (m.2.2.2.1.length:Int) (i:Int) m=K1 (m.2.1.length:Int) m
 | 0,i,_,h2=>by omega
 | c+1,i,h1,h2=>by
  simp only[TN,qul];by_cases hi:i<m.2.2.2.1.length
  .have ih:=NM N n hN K0 K1 I hl c (i+1) (by omega) (by omega);have hn:=I.n;have C:=I.call.c (i:Int) (by omega) (by omega);have hd:m.2.2.2.1.getD i (0,(0,0,0,()),0,0,0,(0,[],()),())=ay m.2.2.2.1 (i:Int):=by unfold ay;rw[d5];rfl
   obtain⟨N,rfl⟩:∃k,N=k+1:=⟨N-1,by omega⟩
   have hst:=C.start;rw[qf (by omega),ix hi,aG,d5,hd,qu (by omega),qs (by omega) (by omega),lI hX (by omega),qc];dsimp only;have hop:Dq (DD X (N+1)) (ay m.2.2.2.1 (i:Int)).2.1=some ((true,()),()):=by have:=UE hX (n:=N+1) (by omega) (ay m.2.2.2.1 (i:Int)).2.1.1 (ay m.2.2.2.1 (i:Int)).2.1.2.1 (ay m.2.2.2.1 (i:Int)).2.1.2.2.1;rw[show((ay m.2.2.2.1 (i:Int)).2.1.1,(ay m.2.2.2.1 (i:Int)).2.1.2.1,(ay m.2.2.2.1 (i:Int)).2.1.2.2.1,())=(ay m.2.2.2.1 (i:Int)).2.1 from rfl,C.op]at this;exact this
   have hwh:∀x:Int,(x = -1\/(ay m.2.2.2.1 (i:Int)).2.2.1<=x/\x<=m.2.2.1)->V9 (DD X (N+1)) (ay m.2.2.2.1 (i:Int)) x m=some ((true,()),()):=by
    intro x hx;rw[aep hX];simp only[qru,q32];by_cases a:x = -1
    .rw[qf a]
    .rw[qg a,lI hX (by omega),qc];dsimp only;rw[jT (hx.resolve_left a)]
   have Am:=C.qI;have kO:=C.fin;rw[jT ⟨C.t.1,by have:=C.t.2;omega⟩,cK,aM,hop,qc];dsimp only;rw[cK,aM,lI hX (by omega),qc];dsimp only;rw[jT hst,cK,aM,hwh _ Am,qc];dsimp only;rw[cK,aM,hwh _ (by omega),qc];dsimp only;rw[cK,aM];exact ih
  .rw[qg (by omega)]
theorem NN(N n:Nat)(hN:W+9<=N)(K0:Bool->aH->Option ((Bool×Unit)×Unit))(K1:aH->Option ((Bool×Unit)×Unit)){m:aH}(I:Inv m)(hl:m.2.2.2.1.length<=1000)(ht:m.2.2.1<=100000):∀(c i:Nat),i<=m.2.1.length->m.2.1.length-i<c->
  TV (DD X N) n K0 K1 c (m.2.1.length:Int) m.2.1 (m.2.1.length:Int) (i:Int) m=K1 m
 | 0,i,_,h2=>by omega
 | c+1,i,h1,h2=>by
  simp only[TV,qum];by_cases hi:i<m.2.1.length
  .have ih:=NN N n hN K0 K1 I hl ht c (i+1) (by omega) (by omega);have hn:=I.n;have T:=I.th (i:Int) (by omega) (by omega);have hd:m.2.1.getD i ([],0,false,[],[],())=ai m (i:Int):=by unfold ai;rw[d5];rfl
   rw[qf (by omega),ix hi,aG,d5,hd,qu (by omega),aaQ hX (by omega) T (by omega) (fun u u0 u1=>by have:=(I.mem.dy u u0 u1).seq.2;omega),qc];dsimp only;rw[cK,aM,abF hX (by omega) I (by omega) (by omega) hl,qc];dsimp only;rw[cK,aM];exact ih
  .rw[qg (by omega)]
theorem Jk{m:aH}(I:Inv m):m.2.2.2.1.length<=15:=
 abP I.call I.n.2 fun t t0 t1=>by have:=(I.th t t0 t1).pc;have:=(I.th t t0 t1).ops.1;omega
theorem Dx(hn:W+10<=n){m:aH}(I:Inv m)(ht:m.2.2.1<=100000):yA (DD X n) m=some ((true,()),()):=by
 obtain⟨n,rfl⟩:∃k,n=k+1:=⟨n-1,by omega⟩
 have hW:=dZ;have hl:=Jk hX I;have hn:=I.n;have mu:=I.mem.dw;have h0:=I.time;rw[afQ hX];simp only[qvx,qwb,qsd];rw[uK hX (by omega) I.mem (by omega) (by omega) (by omega),qc];dsimp only;rw[cK,bg,show((m.1.2.1.length:Int) != (m.2.1.length:Int))=false by rw[bL,bG (by omega)];rfl,aM,lI hX (by omega),qc];dsimp only;rw[jT ⟨h0,ht⟩,cK,bg,qg (by omega),VK hX (by omega) I.first,qc];dsimp only;rw[cK,aM];refine dj (NM hX n n (by omega) _ _ I (by omega) n 0 (e7 _) (by omega)) ?_;simp only[qqs,qse];refine dj (NN hX n n (by omega) _ _ I (by omega) ht n 0 (e7 _) (by omega)) ?_;simp only[q0a];rw[abt hX (by omega) I (by omega),qc]
end
section
variable {X:Ext} (hX:fO X) {n:Nat}
include hX
theorem F_(hn:1<=n)(l:List Int)(hl:l.length<=1000000):Km (DD X n) l=some ((l,()),()):=by
 obtain⟨n,rfl⟩:∃k,n=k+1:=⟨n-1,by omega⟩
 have hb:=i9;rw[qvc hX];simp only[V5,qmy];cases l with
 | nil=>simp[uJ,both,i9]
 | cons a l=>rw[qg (by rw[d5];simp),qf (by simp only[cw]at hl⊢;omega)];rfl
theorem qts(hn:1<=n)(l:List cL)(hl:l.length<=1000000):VY (DD X n) l=some ((l,()),()):=by
 obtain⟨n,rfl⟩:∃k,n=k+1:=⟨n-1,by omega⟩
 have hb:=i9;rw[qx3 hX];simp only[qh2,qmm];cases l with
 | nil=>simp[uJ,both,i9]
 | cons a l=>rw[qg (by rw[d5];simp),qf (by simp only[cw]at hl⊢;omega)];rfl
theorem q3t(hn:1<=n)(l:dL)(hl:l.length<=1000000):qgh (DD X n) l=some ((l,()),()):=by
 obtain⟨n,rfl⟩:∃k,n=k+1:=⟨n-1,by omega⟩
 have hb:=i9;rw[qud hX];simp only[qgk,qkc];cases l with
 | nil=>simp[uJ,both,i9]
 | cons a l=>rw[qg (by rw[d5];simp),qf (by simp only[cw]at hl⊢;omega)];rfl
theorem q3s(hn:1<=n)(l:List gx)(hl:l.length<=1000000):qgg (DD X n) l=some ((l,()),()):=by
 obtain⟨n,rfl⟩:∃k,n=k+1:=⟨n-1,by omega⟩
 have hb:=i9;rw[quc hX];simp only[qgj,qkb];cases l with
 | nil=>simp[uJ,both,i9]
 | cons a l=>rw[qg (by rw[d5];simp),qf (by simp only[cw]at hl⊢;omega)];rfl
theorem q3u(hn:1<=n)(l:List lK)(hl:l.length<=1000000):qgi (DD X n) l=some ((l,()),()):=by
 obtain⟨n,rfl⟩:∃k,n=k+1:=⟨n-1,by omega⟩
 have hb:=i9;rw[que hX];simp only[qgl,qkd];cases l with
 | nil=>simp[uJ,both,i9]
 | cons a l=>rw[qg (by rw[d5];simp),qf (by simp only[cw]at hl⊢;omega)];rfl
theorem qm4(hn:1<=n)(l:List eB)(hl:l.length<=1000000):VU (DD X n) l=some ((l,()),()):=by
 obtain⟨n,rfl⟩:∃k,n=k+1:=⟨n-1,by omega⟩
 have hb:=i9;rw[qrz hX];simp only[qfw,qjv];cases l with
 | nil=>simp[uJ,both,i9]
 | cons a l=>rw[qg (by rw[d5];simp),qf (by simp only[cw]at hl⊢;omega)];rfl
theorem Mt(hn:2<=n)(r:fC)(hl:r.2.1.length<=1000000):I_ (DD X n) r=some ((r,()),()):=by
 obtain⟨n,rfl⟩:∃k,n=k+1:=⟨n-1,by omega⟩
 rw[ahM hX];simp only[Zu,Py];rw[F_ hX (by omega) _ hl,qc]
theorem RN(N n:Nat)(hN:2<=N)(K:aU->aU->Option ((aU×Unit)×Unit))(l:List ny)(hl:l.length<=1000)(h1:∀d∈l,d.2.2.1.length<=1000/\d.2.2.2.1.2.1.length<=1000)(z:aU)(w:List lK):∀(c i:Nat),i<=l.length->l.length-i<c->
  T9 (DD X N) n K c l (l.length:Int) (i:Int) z (w,l.take i,())=K z (w,l,())
 | 0,i,_,h2=>by omega
 | c+1,i,h0,h2=>by
  have hb:=i9;simp only[T9,qyy];by_cases hi:i<l.length
  .have ih:=RN N n hN K l hl h1 z w c (i+1) (by omega) (by omega);have hd:=h1 _ (d_ hi);rw[qf (by omega),ix hi,aG,d5,qv hi,qu (by omega),qm4 hX (by omega) _ (by omega),qc,Mt hX (by omega) _ (by omega),qc];dsimp only;rw[qf (by rw[eH];omega)];rw[mR hi]at ih;exact ih
  .rw[qg (by omega),show l.take i=l from jX (by omega)]
theorem GQ(hn:W+3<=n)(m:aU)(hw:m.1.length<=1000)(hl:m.2.1.length<=1000)(h1:∀d∈m.2.1,d.2.2.1.length<=1000/\d.2.2.2.1.2.1.length<=1000):Kv (DD X n) m=some ((m,()),()):=by
 obtain⟨n,rfl⟩:∃k,n=k+1:=⟨n-1,by omega⟩
 have hW:=dZ;rw[ahL hX];simp only[Zt,ZY,qwg];rw[q3u hX (by omega) _ (by omega),qc];dsimp only;refine dj (RN hX n n (by omega) _ m.2.1 hl h1 ([],[],()) m.1 n 0 (e7 _) (by omega)) ?_;rfl
theorem WJ(hn:2<=n)(x:cN)(h1:x.1.length<=1000)(h2:List.length x.2.2.2.1<=1000)(h3:x.2.2.2.2.1.length<=1000):Kq (DD X n) x=some ((x,()),()):=by
 obtain⟨n,rfl⟩:∃k,n=k+1:=⟨n-1,by omega⟩
 rw[afb hX];simp only[qt9,q6o];rw[qts hX (by omega) _ (by omega),qc,q3t hX (by omega) _ (by omega),qc,q3s hX (by omega) _ (by omega),qc]
theorem Sq(N n:Nat)(hN:2<=N)(K:aH->aH->aH->Option ((aH×Unit)×Unit))(l:List cN)(hl:l.length<=1000)(h1:∀x∈l,x.1.length<=1000/\List.length x.2.2.2.1<=1000/\x.2.2.2.2.1.length<=1000)(z1 z2:aH)(a:aU)(b:Int×List gi×List Int×qp×Unit):∀(c i:Nat),i<=l.length->l.length-i<c->
  TJ (DD X N) n K c l (l.length:Int) (i:Int) z1 z2 (a,l.take i,b)=K z1 z2 (a,l,b)
 | 0,i,_,h2=>by omega
 | c+1,i,h0,h2=>by
  have hb:=i9;simp only[TJ,qqw];by_cases hi:i<l.length
  .have ih:=Sq N n hN K l hl h1 z1 z2 a b c (i+1) (by omega) (by omega);have hd:=h1 _ (d_ hi);rw[qf (by omega),ix hi,aG,d5,qv hi,qu (by omega),WJ hX (by omega) _ hd.1 hd.2.1 hd.2.2,qc];dsimp only;rw[qf (by rw[eH];omega)];rw[mR hi]at ih;exact ih
  .rw[qg (by omega),show l.take i=l from jX (by omega)]
theorem Sp(N n:Nat)(hN:2<=N)(K:aH->aH->Option ((aH×Unit)×Unit))(l:List gi)(hl:l.length<=1000)(h1:∀x∈l,x.2.2.2.2.2.1.2.1.length<=1000)(z1:aH)(a:aU)(th:List cN)(ti:Int)(b:List Int×qp×Unit):∀(c i:Nat),i<=l.length->l.length-i<c->
  TK (DD X N) n K c l (l.length:Int) (i:Int) z1 (a,th,ti,l.take i,b)=K z1 (a,th,ti,l,b)
 | 0,i,_,h2=>by omega
 | c+1,i,h0,h2=>by
  have hb:=i9;simp only[TK,qqx];by_cases hi:i<l.length
  .have ih:=Sp N n hN K l hl h1 z1 a th ti b c (i+1) (by omega) (by omega);have hd:=h1 _ (d_ hi);rw[qf (by omega),ix hi,aG,d5,qv hi,qu (by omega),Mt hX (by omega) _ (by omega),qc];dsimp only;rw[qf (by rw[eH];omega)];rw[mR hi]at ih;exact ih
  .rw[qg (by omega),show l.take i=l from jX (by omega)]
structure CK (m:aH):Prop where
 w:m.1.1.length<=1000
 d:m.1.2.1.length<=1000
 de:∀d∈m.1.2.1,d.2.2.1.length<=1000/\d.2.2.2.1.2.1.length<=1000
 t:m.2.1.length<=1000
 te:∀x∈m.2.1,x.1.length<=1000/\List.length x.2.2.2.1<=1000/\x.2.2.2.2.1.length<=1000
 c:m.2.2.2.1.length<=1000
 ce:∀x∈m.2.2.2.1,x.2.2.2.2.2.1.2.1.length<=1000
 o:m.2.2.2.2.1.length<=1000
 f:aS m.2.2.2.2.2.1
theorem WE(hn:W+4<=n){m:aH}(h:CK m):Ko (DD X n) m=some ((m,()),()):=by
 obtain⟨n,rfl⟩:∃k,n=k+1:=⟨n-1,by omega⟩
 have hW:=dZ;have ht:=h.t;have hc:=h.c
 rw[aer hX];simp only[qrw,qsi,qoy];rw[GQ hX (by omega) _ h.w h.d h.de,qc,F_ hX (by omega) _ (by have:=h.o;omega),qc,VD hX (by omega) h.f,qc];dsimp only;refine dj (Sq hX n n (by omega) _ m.2.1 h.t h.te m (([],[],()),[],0,[],[],([],0,()),()) (m.1.1,m.1.2.1,()) (m.2.2.1,[],m.2.2.2.2.1,(m.2.2.2.2.2.1.1,m.2.2.2.2.2.1.2),()) n 0 (e7 _) (by omega)) ?_;simp only[qnt,qoz];refine dj (Sp hX n n (by omega) _ m.2.2.2.1 h.c h.ce (([],[],()),[],0,[],[],([],0,()),()) (m.1.1,m.1.2.1,()) m.2.1 m.2.2.1 (m.2.2.2.2.1,(m.2.2.2.2.2.1.1,m.2.2.2.2.2.1.2),()) n 0 (e7 _) (by omega)) ?_;rfl
theorem Jl{m:aH}(I:Inv m):CK m where
 w:=by rw[I.mem.len];omega
 d:=by rw[I.mem.dw];have:=I.n;omega
 de:=fun d hd=>by
  obtain⟨j,hj,rfl⟩:=lG.1 hd;have mu:=I.mem.dw;have e:m.1.2.1[j]=aq m.1 (j:Int):=by unfold aq;rw[d5,qv hj]
  have D:=I.mem.dy (j:Int) (by omega) (by omega);have h1:=D.len;refine⟨by rw[e];omega,?_⟩;rw[e];have:=D.rl;omega
 t:=by have:=I.n;omega
 te:=fun x hx=>by
  obtain⟨j,hj,rfl⟩:=lG.1 hx;have e:m.2.1[j]=ai m (j:Int):=by unfold ai;rw[d5,qv hj]
  have T:=I.th (j:Int) (by omega) (by omega);rw[e];have:=T.ops.1;have:=Ik hX T;have:=Iq hX T
  exact⟨by omega,by omega,by omega⟩
 c:=by have:=Jk hX I;omega
 ce:=fun x hx=>by
  obtain⟨j,hj,rfl⟩:=lG.1 hx;have e:m.2.2.2.1[j]=ay m.2.2.2.1 (j:Int):=by rw[tF,qv hj]
  rw[e];have:=(I.call.c (j:Int) (by omega) (by omega)).len;omega
 o:=by have h1:=SK I.call;have h2:=xS m.2.2.2.1 0 m.2.2.2.1.length;have:=Jk hX I;omega
 f:=I.first
end
theorem eqW(a b:Int×Int×Int×Unit):pP (Ty.pair (Ty.int IntKind.i64) (Ty.pair (Ty.int IntKind.i64) (Ty.pair (Ty.int IntKind.i64) Ty.unit))) a b=decide (a=b):=by obtain⟨a1,a2,a3,⟨⟩⟩:=a;obtain⟨b1,b2,b3,⟨⟩⟩:=b;by_cases h1:a1=b1<;>by_cases h2:a2=b2<;>by_cases h3:a3=b3<;>simp[pP,h1,h2,h3]
theorem KM{α:Type}{l:List α}{i:Nat}(h:i<l.length)(x d:α):(l.set i x).getD i d=x:=by rw[Mq,ak ⟨rfl,h⟩]
def BF(x:cN):Prop:=x.1.length<=1000/\List.length x.2.2.2.1<=1000/\x.2.2.2.2.1.length<=1000
section
variable {X:Ext} (hX:fO X) {n:Nat}
include hX
theorem alq(hn:1<=n)(x:cN)(hs:x.2.2.2.2.1≠[])(hl:x.2.2.2.2.1.length<=1000):Gw (DD X n) x=some ((au x,true,()),()):=by
 obtain⟨n,rfl⟩:∃k,n=k+1:=⟨n-1,by omega⟩
 have h0:0<x.2.2.2.2.1.length:=pH.2 hs;rw[aa2 hX];simp only[Gz,Q5];rw[qg (by omega),qs (by omega) (by omega),fP (by omega) (by omega),aG,show((x.2.2.2.2.1.length:Int)-1).toNat=x.2.2.2.2.1.length-1 by omega];rfl
theorem IJ(hn:3<=n)(x:cN)(hx:BF x)(h:gx):KA (DD X n) x h=some ((rf x h,()),()):=by
 obtain⟨n,rfl⟩:∃k,n=k+1:=⟨n-1,by omega⟩
 have hb:=i9;rw[aas hX];simp only[Gm,Qx];rw[WJ hX (by omega) x hx.1 hx.2.1 hx.2.2,qc];dsimp only;rw[qf (by have:=hx.2.2;omega)];rfl
theorem IK(hn:3<=n)(x:cN)(hx:BF x)(hs:x.2.2.2.2.1≠[])(h:gx):UA (DD X n) x h=some ((ko x h,()),()):=by
 obtain⟨n,rfl⟩:∃k,n=k+1:=⟨n-1,by omega⟩
 have h0:0<x.2.2.2.2.1.length:=pH.2 hs;have h1:=hx.2.2;rw[aau hX];simp only[Gp,Qy];rw[WJ hX (by omega) x hx.1 hx.2.1 hx.2.2,qc];dsimp only;rw[qf (by omega),qs (by omega) (by omega),fP (by omega) (by omega),aG,show((x.2.2.2.2.1.length:Int)-1).toNat=x.2.2.2.2.1.length-1 by omega];rfl
theorem alp(hn:3<=n)(x:cN)(hx:BF x)(hs:x.2.2.2.2.1≠[]):Gv (DD X n) x=some ((jg x,()),()):=by
 obtain⟨n,rfl⟩:∃k,n=k+1:=⟨n-1,by omega⟩
 have h0:0<x.2.2.2.2.1.length:=pH.2 hs;have h1:=hx.2.2;rw[aa1 hX];simp only[Gy,Q4];rw[WJ hX (by omega) x hx.1 hx.2.1 hx.2.2,qc];dsimp only;rw[qf (by omega),qs (by omega) (by omega),show(decide (0<=(x.2.2.2.2.1.length:Int)-1)&&decide ((x.2.2.2.2.1.length:Int)-1<=(x.2.2.2.2.1.length:Int)))=true by simp;omega,aG,show((x.2.2.2.2.1.length:Int)-1).toNat=x.2.2.2.2.1.length-1 by omega];rfl
theorem akQ(hn:1<=n){m:aU}{k:Nat}{time:Int}{own:Int->Prop}(I:eY m k time own){h:gx}(H:bW m k h)(hk:k<=3)(hd:(aq m h.1).1=h.2.1)(hs:(aq m h.1).2.1=1) :
  VC (DD X n) m h=some (((q7 m h).2.1,(q7 m h).2.2.1,(q7 m h).2.2.2.1,()),((q7 m h).1,())):=by
 obtain⟨n,rfl⟩:∃k,n=k+1:=⟨n-1,by omega⟩
 have hlen:=I.len;have mu:=I.dw;have u0:=H.t.1;have u1:=H.t.2;have eu:=H.r7;rw[aa3 hX];simp only[GA,Q6];have lH:List.getD m.2.1 (Int.toNat h.1) (0,0,[],(0,[],()),())=aq m h.1:=rfl;rw[fP u0 (by omega),aG,lH];unfold q7;rw[af (by omega),ak hs];by_cases ha:((aq m h.1).2.2.1.length:Int)<=h.2.2.1
 .rw[qf ha,ak ha];rfl
 .have iU:=I.gX u0 u1 eu.1 (show h.2.2.1<_ by omega);have he:List.getD (aq m h.1).2.2.1 (Int.toNat h.2.2.1) (0,0,0,())=qi (aq m h.1).2.2.1 h.2.2.1:=rfl;rw[qg ha,af ha,fP eu.1 (by omega),aG,he,fP iU.1.1 (by omega),aG,qs (by omega) (by omega)];have hw:List.getD m.1 (Int.toNat (qi (aq m h.1).2.2.1 h.2.2.1).1) (0,0,0,())=wd m (qi (aq m h.1).2.2.1 h.2.2.1).1:=rfl;rw[hw,eqW,show((0:Int),h.1+1,h.2.1,())=dM h.1 h.2.1 from rfl];by_cases hm:wd m (qi (aq m h.1).2.2.1 h.2.2.1).1=dM h.1 h.2.1
  .rw[qf hm,ak hm,qs (by omega) (by omega)];rfl
  .rw[qg hm,af hm];by_cases ht:(wd m (qi (aq m h.1).2.2.1 h.2.2.1).1).2.1≠0
   .have xC:(wd m (qi (aq m h.1).2.2.1 h.2.2.1).1).2.1<=100/\0<=(wd m (qi (aq m h.1).2.2.1 h.2.2.1).1).2.1:=by
     rcases I.word _ iU.1.1 iU.1.2 with q | ⟨v,v0,v1,vo,vm,_⟩
     .exact absurd q.1 ht
     .rw[vm];simp only[dM];omega
    rw[show((wd m (qi (aq m h.1).2.2.1 h.2.2.1).1).2.1 != 0)=true by rw[bL,b_ ht];rfl,aG,ak ht,qs (by omega) (by omega)]
   .have C5:(wd m (qi (aq m h.1).2.2.1 h.2.2.1).1).2.1=0:=by omega
    rw[show((wd m (qi (aq m h.1).2.2.1 h.2.2.1).1).2.1 != 0)=false by rw[bL,bG C5];rfl,aM,af ht];by_cases ho:(wd m (qi (aq m h.1).2.2.1 h.2.2.1).1).1=(qi (aq m h.1).2.2.1 h.2.2.1).2.1
    .rw[qf ho,ak ho,qs (by omega) (by omega)];rfl
    .rw[qg ho,af ho];rfl
theorem QS{m:aU}{k:Nat}{time:Int}{own:Int->Prop}(I:eY m k time own)(hk:k<=3):m.1.length<=1000/\m.2.1.length<=1000/\∀d∈m.2.1,d.2.2.1.length<=1000/\d.2.2.2.1.2.1.length<=1000:=by
 refine⟨by rw[I.len];omega,by rw[I.dw];omega,fun d hd=>?_⟩;obtain⟨j,hj,rfl⟩:=lG.1 hd;have mu:=I.dw;have e:m.2.1[j]=aq m (j:Int):=by unfold aq;rw[d5,qv hj]
 have D:=I.dy (j:Int) (by omega) (by omega);have h1:=D.len;have h2:=D.rl;rw[e];exact⟨by omega,by omega⟩
theorem abE(hn:W+8<=n){m:aU}{k:Nat}{time:Int}{own:Int->Prop}(I:eY m k time own){h:gx}(H:bW m k h)(h1:1<=k)(hk:k<=3)(ht:time<=1000000) :
  q4i (DD X n) m h=some (q7 m h,()):=by
 obtain⟨n,rfl⟩:∃k,n=k+1:=⟨n-1,by omega⟩
 have hlen:=I.len;have mu:=I.dw;have u0:=H.t.1;have u1:=H.t.2;have eu:=H.r7;have hfi:=H.fin;have Vl:=H.seq;have hst:=(I.dy h.1 u0 u1).st.2 (by omega);obtain⟨s1,s2,s3⟩:=QS hX I hk;rw[aiz hX];simp only[q4t,PM];rw[GQ hX (by omega) m s1 s2 s3,qc];dsimp only;rw[show((m.1,m.2.1,()):aU)=m from rfl,uK hX (by omega) I ht h1 (by omega),qc];dsimp only;rw[cK,aM,qs (by omega) (by omega),lI hX (by omega),qc];dsimp only;have lH:List.getD m.2.1 (Int.toNat h.1) (0,0,[],(0,[],()),())=aq m h.1:=rfl;rw[jT ⟨u0,by omega⟩,cK,bg,qg (by omega),fP u0 (by omega),aG,lH];by_cases hd:(aq m h.1).1=h.2.1
 .rw[show((aq m h.1).1 != h.2.1)=false by rw[bL,bG hd];rfl,aM,aG,af (by omega),af (by omega)];rw[show((aq m h.1).2.1 != 0)=true by rw[bL,b_ (by omega)];rfl,bA];have hhh:(h.1,h.2.1,h.2.2.1,h.2.2.2.1,())=h:=rfl;by_cases hs:(aq m h.1).2.1=1
  .rw[bG hs,bA,aG,aG,show((h.1,h.2.1,h.2.2.1,h.2.2.2.1,h.2.2.2.2):gx)=h from rfl,akQ hX (by omega) I H hk hd hs,qc]
  .rw[b_ hs,bg,aM,ajY];have ea:q7 m h=(if ((aq m h.1).2.2.1.length:Int)<=h.2.2.2.1 then (m,h,dH,2,())
    else (if wd m (qi (aq m h.1).2.2.1 h.2.2.2.1).1=dM h.1 h.2.1 then
     eA m (qi (aq m h.1).2.2.1 h.2.2.2.1).1 (if (aq m h.1).2.1=2 then (qi (aq m h.1).2.2.1 h.2.2.2.1).2.2.1 else (qi (aq m h.1).2.2.1 h.2.2.2.1).2.1,0,0,()) else m,(h.1,h.2.1,h.2.2.1,h.2.2.2.1+1,()),dH,0,())):=by
    unfold q7;rw[af (by omega),af hs]
   rw[ea];by_cases hf:((aq m h.1).2.2.1.length:Int)<=h.2.2.2.1
   .rw[ak hf,b_ (show ¬ (aq m h.1).2.1=0 by omega),bg,bG (show h.2.2.2.1>=((aq m h.1).2.2.1.length:Int) from hf),aG];rfl
   .have iU:=I.gX u0 u1 hfi.1 (show h.2.2.2.1<_ by omega);have he:List.getD (aq m h.1).2.2.1 (Int.toNat h.2.2.2.1) (0,0,0,())=qi (aq m h.1).2.2.1 h.2.2.2.1:=rfl;have hw:List.getD m.1 (Int.toNat (qi (aq m h.1).2.2.1 h.2.2.2.1).1) (0,0,0,())=wd m (qi (aq m h.1).2.2.1 h.2.2.2.1).1:=rfl;rw[af hf,b_ (show ¬ (aq m h.1).2.1=0 by omega),bg,b_ (show ¬ h.2.2.2.1>=((aq m h.1).2.2.1.length:Int) by omega),aM,fP hfi.1 (by omega),aG,he,
     fP iU.1.1 (by omega),aG,hw,eqW,qs (show -9223372036854775808<=h.1+1 by omega) (by omega),show((0:Int),h.1+1,h.2.1,())=dM h.1 h.2.1 from rfl]
    by_cases hm:wd m (qi (aq m h.1).2.2.1 h.2.2.2.1).1=dM h.1 h.2.1
    .rw[qf hm,ak hm,qs (by omega) (by omega),AJ,KM (show(qi (aq m h.1).2.2.1 h.2.2.2.1).1.toNat<m.1.length by omega)];by_cases h2:(aq m h.1).2.1=2
     .rw[qf h2,ak h2];rfl
     .rw[qg h2,af h2];rfl
    .rw[qg hm,af hm,qs (by omega) (by omega)];rfl
 .rw[show((aq m h.1).1 != h.2.1)=true by rw[bL,b_ hd];rfl,aG];have ea:q7 m h=(m,h,dH,2,()):=by unfold q7;rw[ak hd]
  rw[ea];rfl
end
section
variable {X:Ext} (hX:fO X) {n:Nat}
include hX
theorem QT(D:Den ctx)(n:Nat)(K0:Int->aH->Option ((Int×Unit)×aH×Unit))(K1:aH->Option ((Int×Unit)×aH×Unit))(t:Int)(m:aH)(hl:m.2.2.2.1.length<=1000):∀(i c:Nat),i<=m.2.2.2.1.length->i<c->
  Kl D n K0 K1 c t ((i:Int)-1) m=if qX m.2.2.2.1 t i<0 then K1 m else K0 (qX m.2.2.2.1 t i) m
 | _,0,_,h2=>by omega
 | 0,c+1,_,_=>by
  simp only[Kl,V0];have rP:qX m.2.2.2.1 t 0 = -1:=rfl;rw[qg (by omega),rP,ak (by omega)]
 | i+1,c+1,h1,h2=>by
  have ih:=QT D n K0 K1 t m hl i c (by omega) (by omega);simp only[Kl,V0];have rP:qX m.2.2.2.1 t (i+1)=if (m.2.2.2.1.getD i dC).1=t/\(m.2.2.2.1.getD i dC).2.2.2.2.1<0 then (i:Int) else qX m.2.2.2.1 t i:=rfl
  have e:(((i+1:Nat):Int)-1)=(i:Int):=by omega
  have hd:m.2.2.2.1.getD i (0,(0,0,0,()),0,0,0,(0,[],()),())=m.2.2.2.1.getD i dC:=rfl;rw[e,qf (by omega),ix (by omega),aG,d5,hd,qs (by omega) (by omega)];by_cases a:(m.2.2.2.1.getD i dC).1=t
  .rw[qf a,aG];by_cases b:(m.2.2.2.1.getD i dC).2.2.2.2.1<0
   .rw[ak ⟨a,b⟩]at rP;rw[qf b,rP,af (by omega)]
   .rw[af (fun q=>b q.2)]at rP;rw[qg b,rP];exact ih
  .rw[af (fun q=>a q.1)]at rP;rw[qg a,rP];exact ih
theorem G7(l:List gi)(t:Int):∀i,-1<=qX l t i/\qX l t i<i
 | 0=>by simp[qX]
 | i+1=>by
  have:=G7 l t i;simp only[qX];split<;>omega
theorem QK(hn:W+1<=n)(m:aH)(t:Int)(hl:m.2.2.2.1.length<=1000):V2 (DD X n) m t=some ((kI m.2.2.2.1 t,()),(m,())):=by
 obtain⟨n,rfl⟩:∃k,n=k+1:=⟨n-1,by omega⟩
 have hW:=dZ;rw[adr hX];simp only[qlm,qln,qkk];rw[qs (by omega) (by omega)];refine dj (QT hX (DD X n) n _ _ t m hl m.2.2.2.1.length n (ct _) (by omega)) ?_;have:=G7 (X:=X) hX m.2.2.2.1 t m.2.2.2.1.length;unfold kI;by_cases h:qX m.2.2.2.1 t m.2.2.2.1.length<0
 .rw[ak h,show qX m.2.2.2.1 t m.2.2.2.1.length = -1 by omega];rfl
 .rw[af h];rfl
theorem R3(l:List gi)(t:Int) : -1<=kI l t/\kI l t<l.length:=G7 (X:=X) hX l t _
theorem KX(hn:W+2<=n)(m:aH)(t:Int)(r:fC)(hl:m.2.2.2.1.length<=1000)(ho:m.2.2.2.2.1.length<=1000)(hr:r.2.1.length<=1000):TM (DD X n) m t r=some ((),(iE m t r,())):=by
 obtain⟨n,rfl⟩:∃k,n=k+1:=⟨n-1,by omega⟩
 have hW:=dZ;have hb:=i9;have Yb:=R3 hX m.2.2.2.1 t;rw[ae7 hX];simp only[qt5,q6g];rw[QK hX (by omega) m t hl,qc];dsimp only;unfold iE;by_cases h:kI m.2.2.2.1 t<0
 .rw[qf h,ak h]
 .rw[qg h,af h,fP (by omega) (by omega),aG,Mt hX (by omega) r (by omega),qc];dsimp only;rw[b9,fP (by omega) (by omega),aG,qf (by omega),AJ,KM (show(kI m.2.2.2.1 t).toNat<m.2.2.2.1.length by omega)];rfl
theorem OK(hn:W+2<=n)(m:aH)(t:Int)(r:fC)(t0:0<=t)(t1:t<m.2.1.length)(hl:m.2.2.2.1.length<=1000)(hr:r.2.1.length<=1000)(hp:0<=(ai m t).2.1/\(ai m t).2.1<=1000)(ho:0<=kI m.2.2.2.1 t) :
  TP (DD X n) m t r=some ((),(er m t r,())):=by
 obtain⟨n,rfl⟩:∃k,n=k+1:=⟨n-1,by omega⟩
 have hW:=dZ;have Yb:=R3 hX m.2.2.2.1 t;rw[aeq hX];simp only[qrv,qsf];rw[QK hX (by omega) m t hl,qc];dsimp only;rw[qf (by omega),fP (by omega) (by omega),aG,Mt hX (by omega) r (by omega),qc];dsimp only;rw[b9,fP (by omega) (by omega),aG,AJ,KM (show(kI m.2.2.2.1 t).toNat<m.2.2.2.1.length by omega)];dsimp only;simp only[qqt,q0b];have ht:t.toNat<m.2.1.length:=by omega
 have hx:m.2.1.getD t.toNat ([],0,false,[],[],())=ai m t:=rfl;rw[fP t0 t1,aG];simp only[AJ,KM ht,hx,b9];rw[qs (by omega) (by omega)];unfold er iu;rw[af (by omega)];rfl
theorem abC(hn:1<=n)(w:lK)(t:Int)(h0:0<=t/\t<=100)(h:w.2.1≠t+1):gF ctx (DD X n) (a_.mk 177 [bC.cq (Ty.int IntKind.i64) t]) [bC.val uZ w] Ty.bool=some false:=by
 obtain⟨n,rfl⟩:∃k,n=k+1:=⟨n-1,by omega⟩
 have e:∀D:Den ctx,gF ctx D (a_.mk 177 [bC.cq (Ty.int IntKind.i64) t]) [bC.val uZ w] Ty.bool=(O7 D w t).bind fun r=>some r.1.1:=fun D=>by kernel_rfl
 rw[e,ahy hX];simp only[Zi,Pu];rw[qs (by omega) (by omega),b_ h];rfl
theorem aj1(hn:W+8<=n){m:aU}{k:Nat}{time:Int}{own lY:Int->Prop}(I:eY m k time own)(h1:1<=k)(hk:k<=3)(ht:time<=1000000){t:Int}(t0:0<=t)(t1:t<k)(hno:¬ own t){E:List eB}{r:fC}(hE:E.length<=1000)(hr:r.2.1.length<=1000)
  (I':eY (bJ m t ((aq m t).1+1,1,E,r,())) k time lY):WL (DD X n) m t E r=some ((bJ m t ((aq m t).1+1,1,E,r,()),(t,(aq m t).1+1,0,0,()),true,()),()):=by
 obtain⟨n,rfl⟩:∃k,n=k+1:=⟨n-1,by omega⟩
 have hW:=dZ;have hlen:=I.len;have mu:=I.dw;have Vl:=(I.dy t t0 t1).seq;obtain⟨s1,s2,s3⟩:=QS hX I hk;rw[ajn hX];simp only[q73,PZ];rw[GQ hX (by omega) m s1 s2 s3,qc];dsimp only;rw[uK hX (by omega) I ht h1 (by omega),qc];dsimp only;rw[cK,aM,qs (by omega) (by omega),lI hX (by omega),qc];dsimp only;rw[jT ⟨t0,by omega⟩,cK,aM,Ri hX (by omega) (by omega) (f:=fun _=>false) (fun w hw=>abC hX (by omega) w t (by omega) (by
  obtain⟨j,hj,rfl⟩:=lG.1 hw;have e:m.1[j]=wd m (j:Int):=by unfold wd;rw[d5,qv hj]
  rw[e];rcases I.word (j:Int) (by omega) (by omega) with q | ⟨v,v0,v1,vo,vm,_⟩
  .have:=q.1;omega
  .rw[vm];simp only[dM];intro q;exact hno (by rw[show t=v by omega];exact vo))),qc]
 dsimp only;have lH:List.getD m.2.1 (Int.toNat t) (0,0,[],(0,[],()),())=aq m t:=rfl;rw[z6 hX,aM,fP t0 (by omega),aG,qc];dsimp only;rw[qm4 hX (by omega) E (by omega),qc,Mt hX (by omega) r (by omega),qc];dsimp only;rw[fP t0 (by omega),aG,lH,qs (by omega) (by omega)];have hm:=uK hX (n:=n) (by omega) I' ht h1 (by omega);rw[show((m.1,m.2.1.set t.toNat ((aq m t).1+1,1,E,(r.1,r.2.1,()),()),()):aU)=bJ m t ((aq m t).1+1,1,E,r,()) from rfl,hm,qc];dsimp only;rw[cK,aM]
end
theorem aa8{m:aU}{h:gx}(e:(q7 m h).2.2.2.1=2):(q7 m h).1=m:=by
 unfold q7 at e⊢
 repeat' split at e
 all_goals first
  | rfl
  | (exfalso;revert e;decide)
  | skip
 all_goals simp_all
theorem aa9{m:aU}{h:gx}(e:(q7 m h).2.2.2.1=3):(q7 m h).1=bJ m h.1 ((aq m h.1).1,2,(aq m h.1).2.2):=by
 unfold q7 at e⊢
 repeat' split at e
 all_goals first
  | (exfalso;revert e;decide)
  | skip
 all_goals simp_all
theorem Sr{m:aH}{t:Int}{x:cN}(t0:0<=t)(t1:t<m.2.1.length)(r:fC)(h1:x.1=(ai m t).1)(h2:x.2.1=(ai m t).2.1):er (cB m t x) t r=er m t r:=by
 have hx:ai (cB m t x) t=x:=by rw[qW ⟨t0,t1⟩ t0,ak rfl]
 unfold er;rw[hx,h1,h2];unfold iu;rw[show(cB m t x).2.2.2.1=m.2.2.2.1 from rfl];by_cases h:kI m.2.2.2.1 t<0
 .rw[ak h,ak h];unfold cB;dsimp only;rw[AJ]
 .rw[af h,af h];unfold cB;dsimp only;rw[AJ];rfl
section
variable {X:Ext} (hX:fO X) {n:Nat}
include hX
theorem Sk{m:aU}{k:Nat}{x:cN}{t:Int}(T:jt m k x t):BF x:=by
 have:=T.ops.1;have:=Ik hX T;have:=Iq hX T
 exact⟨by omega,by omega,by omega⟩
theorem abr(hn:W+10<=n){m:aH}(I:Inv m){t:Int}(t0:0<=t)(t1:t<m.2.1.length)(hs:(ai m t).2.2.2.2.1≠[])(JL:m.2.2.1<=1000000):qng (DD X n) m t=some ((),(kH m t,())):=by
 obtain⟨n,rfl⟩:∃k,n=k+1:=⟨n-1,by omega⟩
 have hW:=dZ;have T:=I.th t t0 t1;have ho:=T.Au hs;have hsh:=Sk hX T;have H:=T.d7 _ (mK hs);have Vf:=I.n;have mu:=I.mem.dw;have ht:t.toNat<m.2.1.length:=by omega
 have hx:m.2.1.getD t.toNat ([],0,false,[],[],())=ai m t:=rfl;obtain⟨k,hk,_⟩:=I.call.jQ t t0 t1 ho;have hoc:=I.call.nr hk;have Vd:=hk.dQ;have jO:=Jk hX I;have Aq:=(Jl hX I).o;have Ar:=T.pc;have hop:=T.ops.1;have u0:=H.t.1;have u1:=H.t.2;have hrl:=(I.mem.dy _ u0 u1).rl;rw[adC hX];simp only[qni,qw8,hx,b9,AJ,KM ht];rw[fP t0 t1,aG,alq hX (by omega) (ai m t) hs (by have:=hsh.2.2;omega),qc];dsimp only;rw[show((m.1.1,m.1.2.1,()):aU)=m.1 from rfl,abE hX (by omega) I.mem H (by omega) (by omega) JL,qc];dsimp only;unfold kH;by_cases c1:(q7 m.1 (au (ai m t))).2.2.2.1=1
 .rw[qf c1,ak c1];by_cases hc:(au (ai m t)).1=t/\(ai m t).2.2.2.2.1.length=1
  .rw[ak hc,bG hc.1,bA,qf (by omega),IJ hX (by omega) _ hsh,qc];dsimp only;rw[aG];rfl
  .rw[af hc];have e:(bif decide ((au (ai m t)).1=t) then decide (((ai m t).2.2.2.2.1.length:Int)=1) else false)=false:=by
    by_cases a:(au (ai m t)).1=t
    .rw[bG a,bA,b_ (fun q=>hc ⟨a,by omega⟩)]
    .rw[b_ a];rfl
   rw[e,aM,IK hX (by omega) _ hsh hs,qc];dsimp only;rw[aG];rfl
 rw[qg c1,af c1];by_cases c2:(q7 m.1 (au (ai m t))).2.2.2.1=2
 .rw[qf c2,ak c2,alp hX (by omega) _ hsh hs,qc];dsimp only;rw[aG,aa8 c2];by_cases hne:(au (ai m t)).1≠t
  .rw[show((au (ai m t)).1 != t)=true by rw[bL,b_ hne];rfl,aG,ak hne];rfl
  .have he:(au (ai m t)).1=t:=by omega
   have hd:m.1.2.1.getD t.toNat (0,0,[],(0,[],()),())=aq m.1 t:=rfl;rw[show((au (ai m t)).1 != t)=false by rw[bL,bG he];rfl,aM,af hne,aG,fP t0 (by omega),aG,hd];by_cases hy:(aq m.1 t).2.1=2
   .rw[qf hy,ak hy];have hE:=OK hX (n:=n) (by omega) (cB m t ((jg (ai m t)).1,(jg (ai m t)).2.1,(jg (ai m t)).2.2.1,(jg (ai m t)).2.2.2.1,[],())) t (aq m.1 t).2.2.2.1 t0 (by rw[o7];exact t1) (by show m.2.2.2.1.length<=1000;omega) (by rw[he]at hrl;omega)
     (by rw[qW ⟨t0,t1⟩ t0,ak rfl];show 0<=(ai m t).2.1/\(ai m t).2.1<=1000;omega) (by show 0<=kI m.2.2.2.1 t;omega)
    rw[Sr (x:=((jg (ai m t)).1,(jg (ai m t)).2.1,(jg (ai m t)).2.2.1,(jg (ai m t)).2.2.2.1,[],())) t0 t1 _ rfl rfl]at hE;refine dj (eg (fun z=>qd z _) hE) ?_;rw[qc];rfl
   .rw[qg hy,af hy,aG];rfl
 rw[qg c2,af c2];by_cases c3:(q7 m.1 (au (ai m t))).2.2.2.1=3
 .rw[qf c3,ak c3,aa9 c3];have iK:(bJ m.1 (au (ai m t)).1 ((aq m.1 (au (ai m t)).1).1,2,(aq m.1 (au (ai m t)).1).2.2)).2.1.length=m.1.2.1.length:=HD _ _ _;have hd:List.getD (bJ m.1 (au (ai m t)).1 ((aq m.1 (au (ai m t)).1).1,2,(aq m.1 (au (ai m t)).1).2.2)).2.1 (au (ai m t)).1.toNat (0,0,[],(0,[],()),())=((aq m.1 (au (ai m t)).1).1,2,(aq m.1 (au (ai m t)).1).2.2):=by have:=n_ (m:=m.1) (u:=(au (ai m t)).1) (t:=(au (ai m t)).1) (d:=((aq m.1 (au (ai m t)).1).1,2,(aq m.1 (au (ai m t)).1).2.2)) (by omega) u0;rw[ak rfl]at this;exact this
  rw[iK,fP u0 (by omega),aG,hd];have hS:=KX hX (n:=n) (by omega) (cI m (bJ m.1 (au (ai m t)).1 ((aq m.1 (au (ai m t)).1).1,2,(aq m.1 (au (ai m t)).1).2.2))) (au (ai m t)).1 (aq m.1 (au (ai m t)).1).2.2.2.1 (by show m.2.2.2.1.length<=1000;omega) Aq (by omega);refine dj (eg (fun z=>qd z _) hS) ?_;rw[qc];dsimp only;rw[IK hX (by omega) _ hsh hs,qc];dsimp only;have e2:(iE (cI m (bJ m.1 (au (ai m t)).1 ((aq m.1 (au (ai m t)).1).1,2,(aq m.1 (au (ai m t)).1).2.2))) (au (ai m t)).1 (aq m.1 (au (ai m t)).1).2.2.2.1).2.1=m.2.1:=by unfold iE;split<;>rfl
  rw[e2,fP t0 t1,aG,<-e2];rfl
 rw[qg c3,af c3,IK hX (by omega) _ hsh hs,qc];dsimp only;rw[aG];rfl
end
theorem H_(m:aH)(t u:Int)(x:cN)(r:fC):iE (cB m t x) u r=cB (iE m u r) t x:=by
 unfold iE;rw[show(cB m t x).2.2.2.1=m.2.2.2.1 from rfl];by_cases h:kI m.2.2.2.1 u<0
 .rw[ak h,ak h]
 .rw[af h,af h];rfl
theorem x9(m:aH)(u:Int)(r:fC):(iE m u r).2.1=m.2.1:=by unfold iE;split<;>rfl
section
variable {X:Ext} (hX:fO X) {n:Nat}
include hX
theorem ak5(hn:W+15<=n){m:aH}(I:Inv m){t:Int}(t0:0<=t)(t1:t<m.2.1.length)(ho:(ai m t).2.2.1=true)(hs:(ai m t).2.2.2.2.1=[])(oY:(aq m.1 t).1+1<=m.2.2.1)(JL:m.2.2.1<=1000000) :
  qqa (DD X n) m t=some ((true,()),(tR m t,())):=by
 obtain⟨n,rfl⟩:∃k,n=k+1:=⟨n-1,by omega⟩
 have hW:=dZ;have hb:=i9;have IR:=S4 I t0 t1 ho hs oY;have T:=I.th t t0 t1;have hop:=T.op ho;have hsh:=Sk hX T;have i7:=zU (t:=t) hs;have hno:¬ bx m t:=by unfold bx;rw[i7];simp
 obtain⟨q,B,hq⟩:=T.read ho i7;have nP:=T.along ho;obtain⟨JI,zE⟩:=KI hop T.got nP;have oF:Db (ai m t)=q/\(0<=q/\q<20)/\q∉g7 (ai m t).2.2.2.1/\List.length (ai m t).2.2.2.1<8:=by
  rcases zE with h | ⟨q',B',h,h2,h3,h4,h5⟩
  .rw[hq]at h;have:=eg List.length h.1;simp at this
  .rw[hq]at h;have:=FR h;simp only[eZ]at this;obtain⟨rfl,_⟩:=this;exact⟨h2,h3,h4,h5⟩
 obtain⟨oF,qC,X9,hlen⟩:=oF;have Vf:=I.n;have hwl:=I.mem.len;have mu:=I.mem.dw;have ht:t.toNat<m.2.1.length:=by omega
 have hx:m.2.1.getD t.toNat ([],0,false,[],[],())=ai m t:=rfl;have X2:List.getD (ai m t).1 (Int.toNat (ai m t).2.1) (0,0,0,())=aW (ai m t):=rfl;have Ar:=T.pc;have oG:=T.on ho;have amg:=T.ops.1;obtain⟨k,hk,_⟩:=I.call.jQ t t0 t1 ho;have hoc:=I.call.nr hk;have Vd:=hk.dQ;have jO:=Jk hX I;have Aq:=(Jl hX I).o;rw[ad_ hX];simp only[qqg,q0c,hx,b9,AJ,KM ht,X2];rw[fP t0 t1,aG,fP Ar.1 oG,aG,aaB hX (by omega) (by omega),qc];dsimp only;have hnp:B8 (aW (ai m t)) (ai m t).2.2.2.1=q:=by unfold B8;rw[ak hop];exact oF
 have mH:m.1.1.getD q.toNat (0,0,0,())=wd m.1 q:=rfl;rw[hnp,qf qC.1,fP qC.1 (by omega),aG,mH];have Ep:iA m (ai m t)=(ai m t).2.2.2.1++[(q,(wd m.1 q).1,())]:=by unfold iA;rw[oF]
 unfold tR at IR⊢;rw[oF,Ep]at IR⊢;by_cases hw:(wd m.1 q).2.1≠0
 .rw[ak hw];have xC:(wd m.1 q).2.1<=100/\0<=(wd m.1 q).2.1:=by
   rcases I.mem.word q qC.1 qC.2 with z | ⟨v,v0,v1,vo,vm,_⟩
   .exact absurd z.1 hw
   .rw[vm];simp only[dM];omega
  rw[show((wd m.1 q).2.1 != 0)=true by rw[bL,b_ hw];rfl,aG,qs (by omega) (by omega)];rw[show(((ai m t).1,(ai m t).2.1,(ai m t).2.2.1,(ai m t).2.2.2.1,(ai m t).2.2.2.2):cN)=ai m t from rfl,IJ hX (by omega) _ hsh,qc];rfl
 have hw0:(wd m.1 q).2.1=0:=by omega
 rw[af hw]at IR⊢;rw[show((wd m.1 q).2.1 != 0)=false by rw[bL,bG hw0];rfl,aM,qf (by omega)];have hgl:List.length ((ai m t).2.2.2.1++[(q,(wd m.1 q).1,())])<=1000:=by rw[cV,nL];omega
 rw[ajy hX (by omega) (by omega),qc];dsimp only;generalize hg':(ai m t).2.2.2.1++[(q,(wd m.1 q).1,())]=fE at *;have uw:(m.1,m.2.1.set t.toNat ((ai m t).1,(ai m t).2.1,(ai m t).2.2.1,fE,(ai m t).2.2.2.2),m.2.2)=cB m t (rX (ai m t) fE):=rfl;by_cases hpf:(gj (aW (ai m t)) fE).2.1=false
 .rw[ak hpf,hpf,iP,aG,uw]
 .rw[af hpf]at IR⊢;rw[show(gj (aW (ai m t)) fE).2.1=true by simpa using hpf,cK,aM];have hrl:=abI (aW (ai m t)) fE;by_cases dz:(gj (aW (ai m t)) fE).1.1=true
  .rw[ak dz,dz,aG,uw];have hS:=KX hX (n:=n) (by omega) (cB m t (rX (ai m t) fE)) t (gj (aW (ai m t)) fE).1.2.1 (by show m.2.2.2.1.length<=1000;omega) Aq (by omega);refine dj (eg (fun z=>qd z _) hS) ?_;rw[qc];dsimp only;have e1:(iE (cB m t (rX (ai m t) fE)) t (gj (aW (ai m t)) fE).1.2.1).2.1.length=m.2.1.length:=by rw[x9,o7]
   have fK:ai (iE m t (gj (aW (ai m t)) fE).1.2.1) t=ai m t:=zS (x9 _ _ _) t;have Vk:iE m t (gj (aW (ai m t)) fE).1.2.1=(m.1,m.2.1,m.2.2.1,m.2.2.2.1.set k.toNat ((ay m.2.2.2.1 k).1,(ay m.2.2.2.1 k).2.1,(ay m.2.2.2.1 k).2.2.1,m.2.2.1,(ay m.2.2.2.1 k).2.2.2.2.1,(gj (aW (ai m t)) fE).1.2.1,()),m.2.2.2.2.1++[k],m.2.2.2.2.2):=by unfold iE;rw[hoc,af (by omega)];rfl
   have Ls:(iE (cB m t (rX (ai m t) fE)) t (gj (aW (ai m t)) fE).1.2.1).2.2.2.1=(iE m t (gj (aW (ai m t)) fE).1.2.1).2.2.2.1:=by rw[H_];rfl
   have X1:0<=kI (iE m t (gj (aW (ai m t)) fE).1.2.1).2.2.2.1 t:=by
    have Vq:m4 m t=none:=by unfold m4;rw[af (fun z=>by rw[i7]at z;cases z.1)]
    have gZ:(gj (aW (ai m t)) fE).1.2.1.2.1.length<=20:=hrl.1
    -- zf call is open still
    have gk:ay (m.2.2.2.1.set k.toNat ((ay m.2.2.2.1 k).1,(ay m.2.2.2.1 k).2.1,(ay m.2.2.2.1 k).2.2.1,m.2.2.1,(ay m.2.2.2.1 k).2.2.2.2.1,(gj (aW (ai m t)) fE).1.2.1,())) k=((ay m.2.2.2.1 k).1,(ay m.2.2.2.1 k).2.1,(ay m.2.2.2.1 k).2.2.1,m.2.2.1,(ay m.2.2.2.1 k).2.2.2.2.1,(gj (aW (ai m t)) fE).1.2.1,()):=by rw[DE hk.dQ hk.dQ.1,ak rfl]
    have key:∀(l:List gi)(j:Int),0<=j->j<l.length->(ay l j).1=t->(ay l j).2.2.2.2.1<0->∀i:Nat,j<i->0<=qX l t i:=by
     intro l j j0 j1 h1 h2 i
     induction i with
     | zero=>intro h;omega
     | succ i ih=>
      intro h;simp only[qX];split
      .omega
      .next hc=>
       refine ih ?_;by_cases e:j=(i:Int)
       .exfalso;refine hc ?_;rw[e]at h1 h2;rw[tF]at h1 h2;exact⟨h1,h2⟩
       .omega
    rw[Vk];dsimp only;unfold kI;refine key _ k Vd.1 (by rw[b9];exact Vd.2) ?_ ?_ _ (by rw[b9];exact Vd.2)
    .rw[gk];exact hk.t
    .rw[gk];dsimp only;have:=hk.fin;omega
   have hE:=OK hX (n:=n) (by omega) (iE (cB m t (rX (ai m t) fE)) t (gj (aW (ai m t)) fE).1.2.1) t (gj (aW (ai m t)) fE).1.2.1 t0 (by rw[e1];exact t1)
    (by rw[Ls,Vk];dsimp only;rw[b9];omega) (by omega) (by
     rw[H_,qW (by rw[x9];exact⟨t0,t1⟩) t0,ak rfl];show 0<=(ai m t).2.1/\(ai m t).2.1<=1000;omega) (by rw[Ls];exact X1)
   refine dj (eg (fun z=>qd z _) hE) ?_;rw[qc];dsimp only;have:=Sr (m:=iE m t (gj (aW (ai m t)) fE).1.2.1) (t:=t) (x:=rX (ai m t) fE) t0 (by rw[x9];exact t1) (gj (aW (ai m t)) fE).1.2.1 (by rw[fK];rfl) (by rw[fK];rfl);rw[H_,this]
  .rw[af dz]at IR⊢;rw[show(gj (aW (ai m t)) fE).1.1=false by simpa using dz,aM];have hB:=aj1 hX (n:=n) (by omega) I.mem (by omega) (by omega) JL t0 t1 hno (E:=(gj (aW (ai m t)) fE).1.2.2.1) (r:=(gj (aW (ai m t)) fE).1.2.1) (by omega) (by omega) (by
    have:=IR.mem;rw[o7]at this;exact this)
   refine dj (eg (fun z=>qd z _) hB) ?_;rw[qc];dsimp only;rw[aG];have hP:=IJ hX (n:=n) (by omega) (rX (ai m t) fE) ⟨hsh.1,hgl,hsh.2.2⟩ (t,(aq m.1 t).1+1,0,0,());refine dj (eg (fun z=>qd z _) hP) ?_;rw[qc];rfl
theorem Sj{m:aH}{t:Int}:(vF m t).2.2.1=m.2.2.1+1:=by
 have hs:∀(m:aH)(u:Int)(r:fC),(iE m u r).2.2.1=m.2.2.1:=fun m u r=>by unfold iE;split<;>rfl
 have he:∀(m:aH)(u:Int)(r:fC),(er m u r).2.2.1=m.2.2.1:=fun m u r=>by unfold er iu;split<;>rfl
 unfold vF;split
 .rfl
 .split
  .unfold kH;split
   .split<;>rfl
   .split
    .split
     .rfl
     .split
      .rw[he];rfl
      .rfl
    .split
     .show(iE _ _ _).2.2.1=_;rw[hs];rfl
     .rfl
  .unfold tR;split
   .rfl
   .split
    .rfl
    .split
     .rw[he,hs];rfl
     .rfl
theorem aaP(hn:W+17<=n){m:aH}(I:Inv m){t:Int}(t0:0<=t)(t1:t<m.2.1.length)(ht:m.2.2.1<=100000)(hd:(ai m t).2.1=(ai m t).1.length):KB (DD X n) m t=some ((m,false,()),()):=by
 obtain⟨n,rfl⟩:∃k,n=k+2:=⟨n-2,by omega⟩
 have Vf:=I.n;have hx:m.2.1.getD t.toNat ([],0,false,[],[],())=ai m t:=rfl;rw[Qk hX];simp only[Vx,Gb,hx];rw[Dx hX (by omega) I ht,qc];dsimp only;rw[cK,aM,qs (by omega) (by omega),lI hX (by omega),qc];dsimp only;rw[jT ⟨t0,by omega⟩,cK,aM,fP t0 t1,aG,qub hX];simp only[Wc,qun];rw[qc];dsimp only;rw[bG hd,bA,aG,WE hX (by omega) (Jl hX I),qc]
theorem ak4(hn:W+17<=n){m:aH}(I:Inv m){t:Int}(t0:0<=t)(t1:t<m.2.1.length)(ht:m.2.2.1<100000)(hd:(ai m t).2.1<(ai m t).1.length):KB (DD X n) m t=some ((vF m t,true,()),()):=by
 obtain⟨n,rfl⟩:∃k,n=k+2:=⟨n-2,by omega⟩
 have hW:=dZ;have hb:=i9;have Vf:=I.n;have hti:=I.time;have hx:m.2.1.getD t.toNat ([],0,false,[],[],())=ai m t:=rfl;have IS:=S5 I t0 t1 hd;have hts:=Sj hX (m:=m) (t:=t);have hok:=Dx hX (n:=n+1) (by omega) IS (by omega);have jO:=Jk hX I;have T:=I.th t t0 t1;have Ar:=T.pc;rw[Qk hX];simp only[Vx,Gb,hx];rw[Dx hX (by omega) I (by omega),qc];dsimp only;rw[cK,aM,qs (show -9223372036854775808<=(m.2.1.length:Int)-1 by omega) (by omega),lI hX (by omega),qc];dsimp only;rw[jT ⟨t0,by omega⟩,cK,aM,fP t0 t1,aG,qub hX];simp only[Wc,qun];rw[qc];dsimp only;rw[b_ (show ¬ (ai m t).2.1=(ai m t).1.length by omega),bg,b_ (show ¬ m.2.2.1=100000 by omega),aM,WE hX (by omega) (Jl hX I),qc];dsimp only;rw[fP t0 t1,aG,hx,qs (show -9223372036854775808<=m.2.2.1+1 by omega) (by omega)];unfold vF at hok⊢;by_cases h1:(ai m t).2.2.1=false
 .rw[ak h1]at hok⊢;rw[h1,iP,aG,fP Ar.1 hd,aG,qf (by omega)];refine dj (eg (fun z=>qd z _) hok) ?_;rw[qc];dsimp only;rw[cK,aM];rfl
 rw[af h1]at hok⊢;have t9:(ai m t).2.2.1=true:=by simpa using h1
 rw[t9,cK,aM];by_cases h2:(ai m t).2.2.2.2.1≠[]
 .have hlp:0<(ai m t).2.2.2.2.1.length:=pH.2 h2;rw[ak h2]at hok⊢;rw[qf (by omega)];have hA:=abr hX (n:=n+1) (by omega) (Jn I) t0 t1 h2 (by show m.2.2.1+1<=1000000;omega);refine dj (eg (fun z=>qd z _) hA) ?_;rw[qc];dsimp only;refine dj (eg (fun z=>qd z _) hok) ?_;rw[qc];dsimp only;rw[cK,aM]
 .have tc:(ai m t).2.2.2.2.1=[]:=by simpa using h2
  rw[af h2]at hok⊢;rw[qg (by rw[tc];simp)];have hA:=ak5 hX (n:=n+1) (by omega) (Jn I) t0 t1 t9 tc (by
   have:=(I.mem.dy t t0 t1).seq.2;show(aq m.1 t).1+1<=m.2.2.1+1;omega) (by show m.2.2.1+1<=1000000;omega)
  refine dj (eg (fun z=>qd z _) hA) ?_;rw[qc];dsimp only;rw[cK,aM];refine dj (eg (fun z=>qd z _) hok) ?_;rw[qc];dsimp only;rw[cK,aM]
end
def j3(m:aH)(t:Int):aH:=if (ai m t).2.1<(ai m t).1.length then vF m t else m
def tQ(m:aH)(who:List Int):aH:=who.foldl j3 m
theorem adh(m:aH)(t:Int):(vF m t).2.1.length=m.2.1.length:=by
 have hs:∀(m:aH)(u:Int)(r:fC),(iE m u r).2.1=m.2.1:=x9;have he:∀(m:aH)(u:Int)(r:fC),(er m u r).2.1.length=m.2.1.length:=fun m u r=>by
  unfold er;rw[o7];unfold iu;split<;>rfl
 unfold vF;split
 .unfold pT;rw[o7];rfl
 .split
  .unfold kH;split
   .split<;>(rw[o7];rfl)
   .split
    .split
     .rw[o7];rfl
     .split
      .rw[he];rfl
      .rw[o7];rfl
    .split
     .rw[o7,hs];rfl
     .rw[o7];rfl
  .unfold tR;split
   .rw[o7];rfl
   .split
    .rw[o7];rfl
    .split
     .rw[he,hs];rfl
     .rw[o7];rfl
theorem Kd(m:aH)(t:Int):(j3 m t).2.1.length=m.2.1.length:=by
 unfold j3;split
 .exact adh m t
 .rfl
theorem ac7(who:List Int):∀m:aH,(tQ m who).2.1.length=m.2.1.length:=by
 induction who with
 | nil=>intro m;rfl
 | cons t who ih=>intro m;show(tQ (j3 m t) who).2.1.length=_;rw[ih,Kd]
theorem Bg{m:aH}(I:Inv m){t:Int}(t0:0<=t)(t1:t<m.2.1.length):Inv (j3 m t):=by
 unfold j3;split
 .next h=>exact S5 I t0 t1 h
 .exact I
section
variable {X:Ext} (hX:fO X) {n:Nat}
include hX
theorem Hl(m:aH)(t:Int):m.2.2.1<=(j3 m t).2.2.1/\(j3 m t).2.2.1<=m.2.2.1+1:=by
 unfold j3;split
 .rw[Sj hX];omega
 .omega
theorem KW(hn:W+17<=n){m:aH}(I:Inv m){t:Int}(t0:0<=t)(t1:t<m.2.1.length)(ht:m.2.2.1<100000):KB (DD X n) m t=some ((j3 m t,decide ((ai m t).2.1<(ai m t).1.length),()),()):=by
 unfold j3;by_cases h:(ai m t).2.1<(ai m t).1.length
 .rw[ak h,bG h];exact ak4 hX hn I t0 t1 ht h
 .rw[af h,b_ h];have:=(I.th t t0 t1).pc;exact aaP hX hn I t0 t1 (by omega) (by omega)
theorem acG(who:List Int):∀{m:aH},Inv m->(∀t∈who,0<=t/\t<m.2.1.length)->Inv (tQ m who)/\(tQ m who).2.2.1<=m.2.2.1+who.length/\m.2.2.1<=(tQ m who).2.2.1:=by
 induction who with
 | nil=>intro m I _;exact⟨I,by show m.2.2.1<=_;simp,fh _⟩
 | cons t who ih=>
  intro m I h;have ht:=h t e8;have hg:=Hl hX m t;have:=ih (Bg I ht.1 ht.2) (fun u hu=>by rw[Kd];exact h u (cG _ hu));refine⟨this.1,?_,?_⟩
  .show(tQ (j3 m t) who).2.2.1<=_;rw[cw];have:=this.2.1;omega
  .show _<=(tQ (j3 m t) who).2.2.1;have:=this.2.2;omega
theorem N_(N n:Nat)(hN:W+17<=N)(K:aH->aH->Option ((aH×Unit)×Unit))(who:List Int)(hl:who.length<=2000)(z:aH):∀(c i:Nat)(m:aH),i<=who.length->who.length-i<c->Inv m->(∀t∈who,0<=t/\t<m.2.1.length)->m.2.2.1+(who.length-i:Nat)<=100000->
  Ux (DD X N) n K c who (who.length:Int) (i:Int) m z=K (tQ m (who.drop i)) z
 | 0,i,_,_,h2,_,_,_=>by omega
 | c+1,i,m,h1,h2,I,hw,ht=>by
  simp only[Ux,q82];by_cases hi:i<who.length
  .have hr:=hw _ (d_ hi);have hg:=Hl hX m who[i];have ih:=N_ N n hN K who hl z c (i+1) (j3 m who[i]) (by omega) (by omega) (Bg I hr.1 hr.2) (fun t h=>by rw[Kd];exact hw t h) (by omega);rw[qf (by omega),ix hi,aG,d5,qv hi,qu (by omega),KW hX (by omega) I hr.1 hr.2 (by omega),qc];dsimp only;rw[ih,tG hi];rfl
  .rw[qg (by omega),tH hi];rfl
theorem ak1(hn:W+18<=n){m:aH}(I:Inv m)(who:List Int)(hl:who.length<=2000)(hw:∀t∈who,0<=t/\t<m.2.1.length)(ht:m.2.2.1+who.length<=100000):Gi (DD X n) m who=some ((tQ m who,()),()):=by
 obtain⟨n,rfl⟩:∃k,n=k+1:=⟨n-1,by omega⟩
 have hW:=dZ;rw[aar hX];simp only[Gl,Gr,q5k];rw[WE hX (by omega) (Jl hX I),qc];dsimp only;rw[qg (by omega)];refine dj (N_ hX n n (by omega) _ who hl _ n 0 m (e7 _) (by omega) I hw (by omega)) ?_;rw[jo];rfl
end
def m5(r:qp):List Int:=(List.range 20).map fun p:Nat=>cg r (p:Int)
def dY(r:qp)(L:List (List cL)):aH:=(((m5 r).map fun v=>((v,0,0,()):lK),List.replicate L.length dD,()),L.map fun ops=>((ops,0,false,[],[],()):cN),0,[],[],r,())
structure iG (L:List (List cL)):Prop where
 n:1<=L.length/\L.length<=3
 ops:∀ops∈L,ops.length<=4/\∀o∈ops,dh o=true
theorem rU(r:qp):(m5 r).length=20:=by unfold m5;simp
theorem uH(r:qp){p:Nat}(h:p<20):(m5 r).getD p 0=cg r (p:Int):=by unfold m5;rw[qv (by simp[h])];simp
theorem Q8{a b:List Int}(ha:a.length=20)(hb:b.length=20)(h:∀p:Nat,p<20->a.getD p 0=b.getD p 0):a=b:=by
 apply yu (by omega);intro p h1 h2;have:=h p (by omega)
 rwa [qv h1,qv h2]at this
theorem ML{r:qp}(hr:aS r){L:List (List cL)}(hL:iG L):Inv (dY r L):=by
  have vS:=hL.n;have j_:(dY r L).2.1.length=L.length:=by unfold dY;simp
  have mH:∀p:Int,0<=p->p<20->wd (dY r L).1 p=(cg r p,0,0,()):=by intro p p0 p1;unfold wd dY;dsimp only;rw[qv (by rw[jD,rU];omega),yw];have:=uH r (p:=p.toNat) (by omega);rw[qv (by rw[rU];omega)]at this;rw[this,show((p.toNat:Nat):Int)=p by omega]
  have lH:∀t:Int,aq (dY r L).1 t=dD:=by intro t;unfold aq dY;dsimp only;rw[IA,vM];split<;>rfl
  have xx:∀t:Int,0<=t->t<L.length->∃ops∈L,ai (dY r L) t=(ops,0,false,[],[],()):=by
    intro t t0 t1;have hlt:t.toNat<L.length:=by omega
    refine⟨L[t.toNat],d_ _,?_⟩;unfold ai dY;dsimp only;rw[qv (by simpa using hlt),yw]
  have hno:∀t:Int,0<=t->t<L.length->¬ bx (dY r L) t:=by intro t t0 t1;obtain⟨ops,_,e⟩:=xx t t0 t1;unfold bx;rw[e];simp[bD]
  refine⟨by rw[j_];exact hL.n,by show(0:Int)<=0;omega,?_,?_,?_,?_,hr⟩
  . rw[j_]
    refine⟨by unfold dY;simp[rU],by unfold dY;simp,?_,?_,?_,?_,?_⟩
    . intro t _ _
      rw[lH];exact⟨List.Pairwise.nil,by simp[dD],fun e he=>by simp[dD]at he,by show(0:Int)<=0/\(0:Int)<=0;omega,⟨fun _=>rfl,fun h=>by simp[dD]at h⟩,by simp[dD]⟩
    . intro p p0 p1
      left;rw[mH p p0 p1];have:=B_ hr p ⟨p0,p1⟩;exact⟨rfl,rfl,this.1,by dsimp only;omega⟩
    . intro t _ _ e
      rw[lH]at e;simp[dD]at e
    . intro t t0 t1 e
      exact absurd e (hno t t0 t1)
    . intro t _ _ e
      rw[lH]at e;simp[dD]at e
  . intro t t0 t1
    rw[j_]at t1⊢;obtain⟨ops,ho,e⟩:=xx t t0 t1;rw[e];have h2:=hL.ops ops ho
    exact { ops:=h2,pc:=⟨fh _,by dsimp only;omega⟩,on:=fun q=>(by cases q),off:=fun _=>⟨rfl,rfl⟩,got:=fun g hg=>by simp at hg,st:=.inl rfl,d7:=fun k hk=>by simp at hk,own:=fun k hk=>by simp at hk,
            along:=fun q=>(by cases q),read:=fun q=>(by cases q),plan:=fun q=>by simp[bD]at q }
  . rw[j_]
    refine⟨fun k a b=>?_,fun j k a b c=>?_,fun t t0 t1=>?_,fun t t0 t1 e=>?_,fun t t0 t1 _ k a b=>?_,fun t k _ _ hk=>?_,fun k hk=>?_,?_,?_,fun k a b=>?_⟩
    . simp[dY]at b;omega
    . simp[dY]at c;omega
    . obtain⟨ops,_,e⟩:=xx t t0 t1
      rw[e];simp[dY,wA]
    . obtain⟨ops,_,e2⟩:=xx t t0 t1
      rw[e2]at e;cases e
    . simp[dY]at b;omega
    . have:=hk.dQ
      simp[dY]at this;omega
    . simp[dY]at hk
    . exact List.nodup_nil
    . exact List.Pairwise.nil
    . simp[dY]at b;omega
  . refine⟨r,hr,iH.nil r,fun p p0 p1=>?_⟩
    rw[vk (by rw[mH p p0 p1]),mH p p0 p1]
section
variable {X:Ext} (hX:fO X) {n:Nat}
include hX
theorem Tc(D:Den ctx)(n:Nat)(K:aU->aU->Option ((aU×Bool×Unit)×Unit))(ws:List Int)(hl:ws.length<=1000)(z:aU)(d:List ny×Unit):∀(c i:Nat),i<=ws.length->ws.length-i<c->
  Uh D n K c (ws.length:Int) (i:Int) z ((ws.take i).map (fun v=>((v,0,0,()):lK)),d) ws=K z (ws.map (fun v=>((v,0,0,()):lK)),d)
 | 0,i,_,h2=>by omega
 | c+1,i,h0,h2=>by
  have hb:=i9;simp only[Uh,Zp];by_cases hi:i<ws.length
  .have ih:=Tc D n K ws hl z d c (i+1) (by omega) (by omega);rw[qf (by omega),ix hi,aG,d5,qv hi,qu (by omega)];rw[qf (by rw[jD,eH];omega)];rw[mR hi,pI]at ih;exact ih
  .rw[qg (by omega),show ws.take i=ws from jX (by omega)]
theorem BZ(hn:W+6<=n){r:qp}(hr:aS r):Jc (DD X n) r=some ((m5 r,()),()):=by obtain⟨ws,h1,h2,h3⟩:=acK hX hn hr;rw[h3,Q8 h1 (rU r) (fun p hp=>by rw[h2 p hp,uH r hp];rfl)]
theorem acj(hn:W+8<=n){r:qp}(hr:aS r){L:List (List cL)}(hL:iG L):q4k (DD X n) r (L.length:Int)=some (((dY r L).1,true,()),()):=by
 obtain⟨n,rfl⟩:∃k,n=k+1:=⟨n-1,by omega⟩
 have hW:=dZ;have hb:=i9;have vS:=hL.n;have I:=ML hr hL;have j_:(dY r L).2.1.length=L.length:=by unfold dY;simp
 rw[aiB hX];simp only[q4v,q5g,qyp];rw[lI hX (by omega),qc];dsimp only;rw[jT ⟨by omega,by omega⟩,cK,aM,show(decide (0<=(L.length:Int))&&decide ((L.length:Int)<=(L.length:Int))&&decide ((L.length:Int)<=(f_:Int)))=true by simp;omega,aG,BZ hX (by omega) hr,qc];dsimp only;refine dj (Tc hX (DD X n) n _ (m5 r) (by rw[rU];omega) ([],[],()) (List.replicate L.length dD,()) n 0 (e7 _) (by rw[rU];omega)) ?_;simp only[q8y];have hm:=uK hX (n:=n) (by omega) I.mem (by show(0:Int)<=1000000;omega) (by rw[j_];omega) (by rw[j_];omega);refine dj (eg (fun z=>qd z _) hm) ?_;rw[qc];dsimp only;rw[cK,aM];rfl
theorem RV(N n:Nat)(hN:2<=N)(K:Bool->aH->aH->Option ((aH×Bool×Unit)×Unit))(L:List (List cL))(hl:L.length<=1000)(h1:∀ops∈L,ops.length<=1000)(b:Bool)(z:aH)(a:aU)(e:Int×List gi×List Int×qp×Unit):∀(c i:Nat),i<=L.length->L.length-i<c->
  TR (DD X N) n K c b L (L.length:Int) (i:Int) z (a,(L.take i).map (fun ops=>((ops,0,false,[],[],()):cN)),e)=K b z (a,L.map (fun ops=>((ops,0,false,[],[],()):cN)),e)
 | 0,i,_,h2=>by omega
 | c+1,i,h0,h2=>by
  have hb:=i9;simp only[TR,qsc];by_cases hi:i<L.length
  .have ih:=RV N n hN K L hl h1 b z a e c (i+1) (by omega) (by omega);have hd:=h1 _ (d_ hi);obtain⟨N,rfl⟩:∃k,N=k+1:=⟨N-1,by omega⟩
   rw[qf (by omega),ix hi,aG,d5,qv hi,qu (by omega),afy hX];simp only[qvy,q89];rw[qts hX (by omega) _ (by omega),qc,qc];dsimp only;rw[qf (by rw[jD,eH];omega)];rw[mR hi,pI]at ih;exact ih
  .rw[qg (by omega),show L.take i=L from jX (by omega)]
theorem abp(hn:W+11<=n){r:qp}(hr:aS r){L:List (List cL)}(hL:iG L):qtv (DD X n) r L=some ((dY r L,true,()),()):=by
 obtain⟨n,rfl⟩:∃k,n=k+1:=⟨n-1,by omega⟩
 have hW:=dZ;have vS:=hL.n;have I:=ML hr hL;rw[ae6 hX];simp only[qt4,qui,qqp];rw[acj hX (by omega) hr hL,qc,VD hX (by omega) hr,qc];dsimp only;refine dj (RV hX n n (by omega) _ L (by omega) (fun ops h=>by have:=(hL.ops ops h).1;omega) true (([],[],()),[],0,[],[],([],0,()),()) (dY r L).1 (0,[],[],r,()) n 0 (e7 _) (by omega)) ?_;simp only[qyl];have hm:=Dx hX (n:=n) (by omega) I (by show(0:Int)<=100000;omega);rw[cK,aM];refine dj (eg (fun z=>qd z _) hm) ?_;rw[qc];dsimp only;rw[cK,aM];rfl
end
end Go.G

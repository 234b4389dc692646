import Derived.Test.YtpmimbgkiindbaaGreatAPFnFound2
set_option maxRecDepth 100000
set_option linter.unusedVariables false
set_option linter.unusedSimpArgs false
set_option linter.unusedSectionVars false
open Go.IntKind (wrap)
namespace Go.G
open Go Go.V Go.Proofs
def dy(got:dY)(p:Int):Int:=(eO got p).1
def gW(got:dY):List Int:=got.map (·.1)
def pY(got:dY)(o:cL):Prop:=∃B,path (dy got) (prog o)=gW got++B
def r6(got:dY):Prop:=∀g∈got,0<=g.2.1/\g.2.1<=6
theorem L4(q:Int):∀(a b:dY)(v:Int)(ok:Bool),rd q (a++b) v ok=rd q b (rd q a v ok).1 (rd q a v ok).2
 | [],b,v,ok=>rfl
 | (p,x,_)::a,b,v,ok=>by
  simp only[fJ,rd];split<;>exact L4 q a b _ _
theorem OQ(got:dY)(p v q:Int):eO (got++[(p,v,())]) q=if p=q then (v,true) else eO got q:=by unfold eO;rw[L4];simp only[rd]
theorem Bc(q:Int):∀(a:dY)(v:Int)(ok:Bool),q∉gW a->rd q a v ok=(v,ok)
 | [],v,ok,_=>rfl
 | (p,x,_)::a,v,ok,h=>by
  simp only[gW,cm,bk,nT]at h;simp only[rd];rw[af (fun e=>h.1 e.symm)];exact Bc q a v ok h.2
theorem pX(q:Int):∀(a:dY)(v:Int)(ok:Bool),q∈gW a->(rd q a v ok).2=true/\∃g∈a,g.1=q/\(rd q a v ok).1=g.2.1
 | [],v,ok,h=>by simp[gW]at h
 | (p,x,u)::a,v,ok,h=>by
  simp only[rd];by_cases hq:q∈gW a
  .obtain⟨h1,g,hg,h2⟩:=pX q a (if p=q then x else v) (if p=q then true else ok) hq;have e:(if p=q then rd q a x true else rd q a v ok)=rd q a (if p=q then x else v) (if p=q then true else ok):=by split<;>rfl
   rw[e];exact⟨h1,g,cD _ hg,h2⟩
  .have hp:q=p:=by simp only[gW,cm,bk]at h;exact h.resolve_right hq
   rw[aj hp.symm,Bc q a x true hq];exact⟨rfl,(p,x,u),bO,hp.symm,rfl⟩
theorem FA(got:dY):z9 got (dy got) (gW got):=by
 intro q;by_cases h:q∈gW got
 .rw[aj h];exact Prod.ext rfl (pX q got 0 false h).1
 .rw[af h];exact Bc q got 0 false h
theorem Lp:∀{got:dY},(gW got).Nodup->∀{g g':Int×Int×Unit},g∈got->g'∈got->g'.1=g.1->g=g'
 | [],_,g,g',hg,_,_=>by simp at hg
 | a::l,h,g,g',hg,hg',h1=>by
  rw[gW,cm,Ab]at h;rcases bk.1 hg with rfl | hg2
  .rcases bk.1 hg' with rfl | Vg
   .rfl
   .exact absurd (eE.2 ⟨g',Vg,h1⟩) h.1
  .rcases bk.1 hg' with rfl | Vg
   .exact absurd (eE.2 ⟨g,hg2,h1.symm⟩) h.1
   .exact Lp h.2 hg2 Vg h1
theorem KW{got:dY}(h:(gW got).Nodup){g:Int×Int×Unit}(hg:g∈got):dy got g.1=g.2.1:=by have hm:g.1∈gW got:=eE.2 ⟨g,hg,rfl⟩;obtain⟨_,g',hg',h1,h2⟩:=pX g.1 got 0 false hm;have e:=Lp h hg hg' h1;have e2:dy got g.1=g'.2.1:=h2;rw[e2,e]
theorem KD{got:dY}(hg:r6 got)(p:Int):0<=dy got p/\dy got p<=6:=by
 by_cases h:p∈gW got
 .obtain⟨_,g,hm,_,e⟩:=pX p got 0 false h;have:=hg g hm;unfold dy eO;rw[e];exact this
 .have:=Bc p got 0 false h;unfold dy eO;rw[this];dsimp only;omega
theorem Fu{w w':Int->Int}:∀(A:List Int)(P:PR)(B:List Int),path w P=A++B->(∀a∈A,w' a=w a)->∃B',path w' P=A++B'/\B'.head? = B.head?
 | [],.done,B,h,_=>⟨[],rfl,by simp only[path,gJ]at h;rw[<-h]⟩
 | [],.ask p k,B,h,_=>⟨p::path w' (k (w' p)),rfl,by simp only[path,gJ]at h;rw[<-h];rfl⟩
 | a::A,.done,B,h,_=>by simp[path]at h
 | a::A,.ask p k,B,h,hw=>by
  simp only[path,fJ,eL]at h;obtain⟨rfl,h⟩:=h;obtain⟨B',h1,h2⟩:=Fu A (k (w p)) B h fun b hb=>hw b (cD _ hb);exact⟨B',by simp only[path,fJ];rw[hw p bO,h1],h2⟩
section
variable {o:cL} (ho:cH o=true) {got:dY} (hg:r6 got)
include ho hg
theorem R4(h:pY got o):(gW got).Nodup/\(∀p∈gW got,0<=p/\p<20)/\got.length<=8:=by obtain⟨B,hB⟩:=h;have hp:=Is ho (dy got) (fun k _=>KD hg k);rw[hB]at hp;refine⟨(GW.1 hp.once).1,fun p h=>hp.dL p (En _ h),?_⟩;have:=hp.len;rw[cw,gW,jw]at this;omega
theorem R9(h:pY got o):(run got (prog o)).1=gW got/\
  ((path (dy got) (prog o)=gW got/\(run got (prog o)).2 = -1)\/∃q B,path (dy got) (prog o)=gW got++q::B/\(run got (prog o)).2=q/\(0<=q/\q<20)/\q∉gW got/\got.length<8):=by
 obtain⟨B,hB⟩:=h;have hp:=Is ho (dy got) (fun k _=>KD hg k);rw[hB]at hp;have hn:=GW.1 hp.once;have hr:=F5 (FA got) (gW got) B (prog o) hB (fun a h=>h) (fun a h=>(hp.dL a h).1) (fun b B' e hb=>hn.2.2 b hb b (by rw[e];exact bO) rfl);rw[hr];refine⟨rfl,?_⟩;cases B with
 | nil=>exact .inl ⟨by rw[hB,gr],rfl⟩
 | cons q B=>refine .inr ⟨q,B,hB,rfl,hp.dL q (by simp),fun h=>hn.2.2 q h q bO rfl,?_⟩;have:=hp.len;rw[cw,gW,jw,ct]at this;omega
theorem Z2(h:pY got o){q:Int}{B:List Int}(hq:path (dy got) (prog o)=gW got++q::B)(hn:q∉gW got)(v:Int):pY (got++[(q,v,())]) o:=by
 have hw:∀a∈gW got,dy (got++[(q,v,())]) a=dy got a:=by intro a ha;unfold dy;rw[OQ,af (fun e:q=a=>hn (by rw[e];exact ha))]
 obtain⟨B',h1,h2⟩:=Fu (gW got) (prog o) (q::B) hq hw;cases B' with
 | nil=>simp at h2
 | cons b B'=>simp only[List.head?_cons,aI]at h2;subst h2;exact⟨B',by rw[h1];simp[gW]⟩
end
theorem Pc(o:cL):pY [] o:=⟨path (dy []) (prog o),rfl⟩
theorem aaF{o:cL}{got:dY}{r:qp}(hn:(gW got).Nodup)(hp:path (dy got) (prog o)=gW got)(h:∀g∈got,g.2.1=cj r g.1):got=fo r o:=by
 have hw:∀a∈gW got,cj r a=dy got a:=by intro a ha;obtain⟨g,hg,rfl⟩:=eE.1 ha;rw[KW hn hg,h g hg]
 obtain⟨B',h1,h2⟩:=Fu (w':=cj r) (gW got) (prog o) [] (by rw[hp,gr]) hw;have hB:B'=[]:=by cases B' with | nil=>rfl | cons b B'=>simp at h2
 rw[hB,gr]at h1;unfold fo;rw[h1,gW,xx];have:got.map ((fun p=>(p,cj r p,())) ∘ fun(x:Int×Int×Unit)=>x.1)=got.map id:=by apply qT;intro g hg;show(g.1,cj r g.1,())=g;rw[<-h g hg]
 rw[this,List.map_id]
theorem KV:∀(a b:List Int),a.Nodup->(∀x∈a,x∈b)->b.length<=a.length->∀x∈b,x∈a
 | [],b,_,_,hl,x,hx=>by
  have:b=[]:=jU.1 (by simpa using hl);rw[this]at hx;exact hx
 | a::l,b,hn,hs,hl,x,hx=>by
  rw[Ab]at hn;have hab:=hs a bO;have hlen:=List.length_erase_of_mem hab;have hpos:0<b.length:=List.length_pos_of_mem hab;have:=KV l (b.erase a) hn.2 (fun y hy=>(List.mem_erase_of_ne (fun e=>hn.1 (by rw[<-e];exact hy))).2 (hs y (cD _ hy))) (by simp only[ct]at hl;omega);by_cases h:x=a
  .rw[h];exact bO
  .exact cD _ (this x ((List.mem_erase_of_ne h).2 hx))
section
variable {o:cL} (ho:cH o=true) {got:dY} (hg:r6 got) (sR:pY got o) (hp:path (dy got) (prog o)=gW got) (dJ:mc o got=none)
include ho hg sR hp dJ
theorem Lm:lH (dw o got):=by
 have hpk:=Is ho (dy got) (fun k _=>KD hg k);have hk:z9 got (dy got) (path (dy got) (prog o)):=by rw[hp];exact FA got
 have hrun:(run got (prog o)).2 = -1:=by
  rcases(R9 ho hg sR).2 with h | ⟨q,B,h,_⟩
  .exact h.2
  .rw[hp]at h;have:=eM List.length h;simp at this
 have HZ:∀p∈path (dy got) (prog o),val got p=dy got p:=fun p hp=>rfl;unfold dw;by_cases eG:o.1=1\/o.1=2\/o.1=3
 .rw[aj eG];obtain⟨_,r2,_,_⟩:=KB (got:=got) (K:=o.2.1) (V:=o.2.2.1) (held:=val got (qw o.2.1)) (st:=val got 13) (xH ho dJ eG);exact r2
 rw[af eG];by_cases k7:o.1=7
 .rw[aj k7];simp[lH,same]
 rw[af k7];by_cases k8:o.1=8
 .rw[aj k8];simp[lH]
 rw[af k8];by_cases k9:o.1=9
 .rw[aj k9];have h1:=uW (wrap .i64 (val got 13-1));generalize qw (wrap .i64 (val got 13-1))=q at *;have h2:=oC (val got q);cases hin:bq (val got q) 1 6
  .simp[lH,same,cond];omega
  .have:=kF.1 hin;simp only[bg,lH,same,kS,bk,c_,dg,uF,ur,List.Pairwise.nil,gM,false_imp_iff,uq];omega
 rw[af k9];by_cases gO:o.1=10
 .rw[aj gO];have qX:=rz ho;have h2:=oC o.2.2.1;simp only[lH,same,kS,bk,c_,dg,uF,ur,List.Pairwise.nil,gM,false_imp_iff,uq];omega
 rw[af gO];exact List.Pairwise.nil
theorem FQ:(∀g∈got,∃e∈dw o got,e.1=g.1/\e.2.1=g.2.1)/\(∀e∈dw o got,∃g∈got,g.1=e.1/\g.2.1=e.2.1)/\(dw o got).length=got.length:=by
 have hk:z9 got (dy got) (path (dy got) (prog o)):=by rw[hp];exact FA got
 have hn:=(R4 ho hg sR).1;have hrun:run got (prog o)=(path (dy got) (prog o),-1):=by
  obtain⟨h1,h2⟩:=R9 ho hg sR;rcases h2 with h | ⟨q,B,h,_⟩
  .exact Prod.ext (by rw[h1,hp]) h.2
  .rw[hp]at h;have:=eM List.length h;simp at this
 obtain⟨hA,hB⟩:=Ll ho (fun k _=>KD hg k) hk hrun dJ;rw[hp]at hA hB;have hlen:(dw o got).length=got.length:=by rw[hB,gW,jw]
 have rM:=Lm ho hg sR hp dJ;have h1:∀g∈got,∃e∈dw o got,e.1=g.1/\e.2.1=g.2.1:=by intro g yU;obtain⟨e,he,a,b⟩:=hA g.1 (eE.2 ⟨g,yU,rfl⟩);exact⟨e,he,a,by rw[b,KW hn yU]⟩
 refine⟨h1,?_,hlen⟩;intro e he;have hm:e.1∈gW got:=by refine KV (gW got) ((dw o got).map (·.1)) hn (fun x hx=>?_) (by rw[jw,hlen,gW,jw];exact b7 _) e.1 (eE.2 ⟨e,he,rfl⟩);obtain⟨g,yU,rfl⟩:=eE.1 hx;obtain⟨e',he',a,_⟩:=h1 g yU;exact eE.2 ⟨e',he',a⟩
 obtain⟨g,yU,hge⟩:=eE.1 hm;obtain⟨e',he',a,b⟩:=h1 g yU;have:e'=e:=by
  have SF:=Pe rM;have hinj:∀(l:List eB),(l.map (·.1)).Nodup->∀x∈l,∀y∈l,x.1=y.1->x=y:=by
   intro l
   induction l with
   | nil=>intro _ x hx;simp at hx
   | cons c l ih=>
    intro hd x hx y hy hxy;rw[cm,Ab]at hd;rcases bk.1 hx with hx | hx
    .rcases bk.1 hy with hy | hy
     .rw[hx,hy]
     .exact absurd (eE.2 ⟨y,hy,by rw[<-hxy,hx]⟩) hd.1
    .rcases bk.1 hy with hy | hy
     .exact absurd (eE.2 ⟨x,hx,by rw[hxy,hy]⟩) hd.1
     .exact ih hd.2 x hx y hy hxy
  exact hinj _ SF e' he' e he (by rw[a];exact hge)
 rw[this]at b;exact⟨g,yU,hge,b.symm⟩
theorem Ln:∀e∈dw o got,(0<=e.1/\e.1<20)/\(0<=e.2.1/\e.2.1<=1000)/\(0<=e.2.2.1/\e.2.2.1<=1000):=by
 intro e he;obtain⟨g,yU,h1,h2⟩:=(FQ ho hg sR hp dJ).2.1 e he;have hr:=(R4 ho hg sR).2.1 g.1 (eE.2 ⟨g,yU,rfl⟩);have hv:=hg g yU;refine⟨by omega,by omega,?_⟩;have hval:∀p,0<=val got p/\val got p<=6:=fun p=>KD hg p;have qX:=rz ho;unfold dw at he;by_cases eG:o.1=1\/o.1=2\/o.1=3
 .rw[aj eG]at he;obtain⟨_,_,r3,_⟩:=KB (got:=got) (K:=o.2.1) (V:=o.2.2.1) (held:=val got (qw o.2.1)) (st:=val got 13) (xH ho dJ eG);rw[r3,Ig]at he;obtain⟨q,hq,hh,rfl⟩:=he;dsimp only;have hold:=hval q.1;unfold val at hold;generalize (eO got q.1).1=old at *;have yS:=hval 13;unfold eX at hq;have zT:0<=one old/\one old<=1000:=by unfold one;rw[qs (by omega) (by omega)];omega
  have oJ:0<=less old/\less old<=1000:=by unfold less;rw[qs (by omega) (by omega)];split<;>omega
  have JA:wrap .i64 (o.2.1+1)=o.2.1+1:=qs (by omega) (by omega);have aks:=qX;have hc:q=(qw o.2.1,fun _=>o.2.2.1)\/q=(13,fun _=>val got 13)\/q.2=(fun _=>0)\/q.2=(fun _=>wrap .i64 (o.2.1+1))\/q.2=less\/q.2=one:=by
   cases lJ:qh (val got (qw o.2.1)) != qh o.2.2.1
   .rw[lJ]at hq;simp only[aW,gr,bk,c_,dg]at hq;rcases hq with rfl | rfl | rfl | rfl | rfl | rfl<;>simp
   .rw[lJ]at hq;simp only[bg,fJ,gJ,bk,c_,dg]at hq;rcases hq with rfl | rfl | rfl | rfl | rfl | rfl | rfl | rfl<;>simp
  rcases hc with e | e | e | e | e | e
  .rw[e];show 0<=o.2.2.1/\o.2.2.1<=1000;omega
  .rw[e];show 0<=val got 13/\val got 13<=1000;omega
  .rw[e];show(0:Int)<=0/\(0:Int)<=1000;omega
  .rw[e];show 0<=wrap .i64 (o.2.1+1)/\wrap .i64 (o.2.1+1)<=1000;rw[JA];omega
  .rw[e];exact oJ
  .rw[e];exact zT
 have hsame:∀p,0<=(same got p).2.2.1/\(same got p).2.2.1<=1000:=fun p=>by have:=hval p;unfold same;dsimp only;omega
 have yS:=hval 13;rw[af eG]at he;by_cases k7:o.1=7
 .rw[aj k7]at he;simp only[bk,c_,dg]at he;rcases he with rfl | rfl | rfl | rfl<;>exact hsame _
 rw[af k7]at he;by_cases k8:o.1=8
 .rw[aj k8]at he;simp only[bk,c_,dg]at he;subst he;dsimp only;omega
 rw[af k8]at he;by_cases k9:o.1=9
 .rw[aj k9]at he;simp only[bk]at he;rcases he with rfl | rfl | he
  .exact hsame _
  .dsimp only;rw[qs (by omega) (by omega)];omega
  .cases hin:bq (val got (qw (wrap .i64 (val got 13-1)))) 1 6
   .rw[hin]at he;simp at he
   .rw[hin,bg,er]at he;subst he;dsimp only;omega
 rw[af k9]at he;by_cases gO:o.1=10
 .rw[aj gO]at he;simp only[bk,c_,dg]at he;rcases he with rfl | rfl<;>exact hsame _
 rw[af gO]at he;simp at he
end
theorem Bu{r:qp}(hr:aM r)(p:Int)(hp:0<=p/\p<20):0<=cj r p/\cj r p<=6:=by
 have hl:=hr.len;have hst:=hr.st;have hk:=fun v=>vO v r.1 0;unfold cj jB;by_cases h1:p.toNat<4
 .rw[aj h1];rw[qv (by omega)];exact hr.dL _ (ef _)
 rw[af h1];by_cases h2:p.toNat<10
 .rw[aj h2];have:=hk ((p.toNat:Int)-3);unfold pU;split<;>omega
 rw[af h2];by_cases h3:p.toNat<13
 .rw[aj h3];have key:∀(c:Int)(l:List Int),0<=many c l/\many c l<=l.length:=by
   intro c l
   induction l with
   | nil=>simp[many]
   | cons a l ih=>simp only[many,ct];cases (bq a 1 6&&decide (qh a=c))<;>simp<;>omega
  have:=key ((p.toNat:Int)-10) r.1;omega
 rw[af h3];by_cases h4:p.toNat=13
 .rw[aj h4];omega
 rw[af h4];have:=hk ((p.toNat:Int)-13);unfold kM;split<;>omega
theorem ajH{r:qp}(hr:aM r){o:cL}(ho:cH o=true){g0:dY}{q:Int}(hp:path (dy (g0++[(q,cj r q,())])) (prog o)=gW (g0++[(q,cj r q,())])){x:Int×List Int}(dJ:mc o (g0++[(q,cj r q,())])=some x) :
  Out r o x.1 x.2/\gX r o x.1=r/\x.2.length<=4:=by
 have w5:dy (g0++[(q,cj r q,())]) q=cj r q:=by unfold dy;rw[OQ,aj rfl]
 have bf:(path (dy (g0++[(q,cj r q,())])) (prog o)).getLast? = some q:=by rw[hp];simp[gW]
 have hn:jr o.1 o.2.2.1 (dy (g0++[(q,cj r q,())]) (qw o.2.1)) (dy (g0++[(q,cj r q,())]) (q9 o.2.2.1)) (dy (g0++[(q,cj r q,())]) 13) (dy (g0++[(q,cj r q,())]) (iH o.2.1))=some x:=dJ;clear hp dJ;generalize dy (g0++[(q,cj r q,())])=w at *;have qX:=rz ho;have hst:=hr.st;have hl:=hr.len;have hrow:=uW o.2.1;have hown:=uN o.2.2.1;have hk:=vO o.2.2.1 r.1 0;unfold jr at hn;by_cases k1:o.1=1
 .have gN:prog o=su o:=by unfold prog;rw[aj k1]
  have hK:qw o.2.1=o.2.1:=by omega
  rw[gN]at bf;unfold su at bf;simp only[path]at bf;by_cases a:w (qw o.2.1)≠0
  .rw[aj ⟨k1,a⟩]at hn;obtain rfl:=gu hn;rw[show(w (qw o.2.1) != 0)=true by rw[bA,bJ a];rfl,bg]at bf;simp only[path,nx,aI]at bf;rw[bf,w5,<-bf,hK,(uR hr (by omega)).1]at a;exact⟨.xu k1 a,by unfold gX;rw[aj (by decide)],by simp⟩
  .rw[af (fun z=>a z.2)]at hn;have a':w (qw o.2.1)=0:=by omega
   rw[show(w (qw o.2.1) != 0)=false by rw[bA,cT a'];rfl,aW]at bf;simp only[path]at bf;by_cases b:w (q9 o.2.2.1)≠0
   .rw[aj ⟨k1,b⟩]at hn;obtain rfl:=gu hn;rw[show(w (q9 o.2.2.1) != 0)=true by rw[bA,bJ b];rfl,bg]at bf;simp only[path,QO,nx,aI]at bf;rw[bf,w5,<-bf,HA hr (by omega)]at b;exact⟨.xw k1 (by omega),by unfold gX;rw[aj (by decide)],by simp⟩
   .rw[af (fun z=>b z.2),af (by omega),af (by omega),af (by omega),af (by omega),af (by omega),af (by omega),af (by omega),af (by omega),af (by omega),af (by omega)]at hn;cases hn
 rw[af (fun z=>k1 z.1),af (fun z=>k1 z.1)]at hn;by_cases k2:o.1=2
 .have gN:prog o=sv o:=by unfold prog;rw[af k1,aj k2]
  have hK:qw o.2.1=o.2.1:=by omega
  rw[gN]at bf;unfold sv at bf;simp only[path]at bf;have hone:(w (qw o.2.1)=0\/w (qw o.2.1)=o.2.2.1)->w (qw o.2.1)=r.1.getD o.2.1.toNat 0:=by
   intro h;rw[show(bif decide (w (qw o.2.1)=0) then true else decide (w (qw o.2.1)=o.2.2.1))=true by
    rcases h with h | h
    .rw[cT h];rfl
    .rw[cT h];cases decide (w (qw o.2.1)=0)<;>rfl,bg]at bf
   simp only[path,nx,aI]at bf;rw[bf,w5,<-bf,hK,(uR hr (by omega)).1]
  by_cases a:w (qw o.2.1)=0
  .rw[aj ⟨.inl k2,a⟩]at hn;obtain rfl:=gu hn;exact⟨.yJ k2 (by rw[<-hone (.inl a)];exact a),by unfold gX;rw[aj (by decide)],by simp⟩
  rw[af (fun z=>a z.2)]at hn;by_cases b:w (qw o.2.1)=o.2.2.1
  .rw[aj ⟨k2,b⟩]at hn;obtain rfl:=gu hn;have e:=hone (.inr b);rw[e]at a b;refine⟨.u_ k2 a b,?_,by simp⟩;unfold gX;rw[af (by decide),aj (.inr k2)];have hs:r.1.set o.2.1.toNat o.2.2.1=r.1:=by rw[<-b,qv (by omega)];exact Ac _
   rw[hs]
  rw[af (fun z=>b z.2)]at hn;by_cases d:w (q9 o.2.2.1)≠0
  .rw[aj ⟨k2,d⟩]at hn;obtain rfl:=gu hn;rw[bJ a,bJ b]at bf;simp only[aW,path]at bf;rw[show(w (q9 o.2.2.1) != 0)=true by rw[bA,bJ d];rfl,bg]at bf;simp only[path,QO,nx,aI]at bf;rw[bf,w5,<-bf,HA hr (by omega)]at d;exact⟨.yI k2 (by omega),by unfold gX;rw[aj (by decide)],by simp⟩
  .rw[af (fun z=>d z.2),af (by omega),af (by omega),af (by omega),af (by omega),af (by omega),af (by omega),af (by omega)]at hn;cases hn
 by_cases k3:o.1=3
 .have gN:prog o=uQ o:=by unfold prog;rw[af k1,af k2,aj k3]
  have hK:qw o.2.1=o.2.1:=by omega
  rw[gN]at bf;unfold uQ at bf;simp only[path]at bf;by_cases a:w (qw o.2.1)=0
  .rw[aj ⟨.inr (.inl k3),a⟩]at hn;obtain rfl:=gu hn;rw[cT a,bg]at bf;simp only[path,nx,aI]at bf;rw[bf,w5,<-bf,hK,(uR hr (by omega)).1]at a;exact⟨.zD k3 a,by unfold gX;rw[aj (by decide)],by simp⟩
  .rw[af (fun z=>a z.2),af (by omega),af (by omega),af (by omega),af (by omega),af (by omega),af (by omega),af (by omega),af (by omega),af (by omega)]at hn;cases hn
 by_cases k4:o.1=4
 .have gN:prog o=.ask (qw o.2.1) fun _=>.done:=by unfold prog;rw[af k1,af k2,af k3,aj k4]
  have hK:qw o.2.1=o.2.1:=by omega
  rw[gN]at bf;simp only[path,nx,aI]at bf;have e:w (qw o.2.1)=r.1.getD o.2.1.toNat 0:=by rw[bf,w5,<-bf,hK,(uR hr (by omega)).1]
  rw[e]at hn;by_cases a:r.1.getD o.2.1.toNat 0=0
  .rw[aj ⟨.inr (.inr k4),a⟩]at hn;obtain rfl:=gu hn;exact⟨.zG k4 a,by unfold gX;rw[aj (by decide)],by simp⟩
  .rw[af (fun z=>a z.2),af (by omega),af (by omega),aj k4]at hn;obtain rfl:=gu hn;exact⟨.zF k4 a,R6 0 (by omega),by simp⟩
 rw[af (by omega),af (by omega),af (by omega),af (by omega)]at hn;by_cases k5:o.1=5
 .have gN:prog o=.ask (q9 o.2.2.1) fun _=>.done:=by unfold prog;rw[af k1,af k2,af k3,af k4,aj k5]
  rw[gN]at bf;simp only[path,nx,aI]at bf;have e:w (q9 o.2.2.1)=aV o.2.2.1 r.1 0+1:=by rw[bf,w5,<-bf,HA hr (by omega)]
  rw[e]at hn;by_cases a:aV o.2.2.1 r.1 0+1=0
  .rw[aj ⟨k5,a⟩]at hn;obtain rfl:=gu hn;exact⟨.sO k5 (by omega),by unfold gX;rw[aj (by decide)],by simp⟩
  .rw[af (fun z=>a z.2),aj k5]at hn;obtain rfl:=gu hn;rw[qs (by omega) (by omega),show aV o.2.2.1 r.1 0+1-1=aV o.2.2.1 r.1 0 by omega];exact⟨.sN k5 (by omega),R6 0 (by omega),by simp⟩
 rw[af (fun z=>k5 z.1),af k5]at hn;by_cases k6:o.1=6
 .have gN:prog o=.ask (iH o.2.1) fun _=>.done:=by unfold prog;rw[af k1,af k2,af k3,af k4,af k5,aj k6]
  rw[gN]at bf;simp only[path,nx,aI]at bf;have e:w (iH o.2.1)=many o.2.1 r.1:=by rw[bf,w5,<-bf,Pq (by omega)]
  rw[aj k6,e]at hn;obtain rfl:=gu hn;exact⟨.zB k6,R6 0 (by omega),by simp⟩
 rw[af k6]at hn;by_cases k8:o.1=8
 .have gN:prog o=.ask 13 fun _=>.done:=by unfold prog;rw[af k1,af k2,af k3,af k4,af k5,af k6,af (by omega),aj k8]
  rw[gN]at bf;simp only[path,nx,aI]at bf;have e:w 13=r.2.1:=by rw[bf,w5,<-bf,CP]
  rw[e]at hn;by_cases a:r.2.1≠0
  .rw[aj ⟨k8,a⟩]at hn;obtain rfl:=gu hn;exact⟨.pT k8 a,by unfold gX;rw[aj (by decide)],by simp⟩
  .rw[af (fun z=>a z.2),af (by omega),af (by omega)]at hn;cases hn
 rw[af (fun z=>k8 z.1)]at hn;by_cases k9:o.1=9
 .have gN:prog o=ym:=by unfold prog;rw[af k1,af k2,af k3,af k4,af k5,af k6,af (by omega),af k8,aj k9]
  rw[gN]at bf;unfold ym at bf;simp only[path]at bf;by_cases a:w 13<1\/w 13>4
  .rw[aj ⟨k9,a⟩]at hn;obtain rfl:=gu hn;rw[show(bif decide (w 13<1) then true else decide (w 13>4))=true by
    rcases a with h | h
    .rw[cT h];rfl
    .rw[cT h];cases decide (w 13<1)<;>rfl,bg]at bf
   simp only[path,nx,aI]at bf;rw[bf,w5,<-bf,CP]at a;exact⟨.ou k9 (by omega),by unfold gX;rw[aj (by decide)],by simp⟩
  .rw[af (fun z=>a z.2),af (by omega)]at hn;cases hn
 rw[af (fun z=>k9 z.1)]at hn;by_cases gO:o.1=10
 .have gN:prog o=vN o:=by unfold prog;rw[af k1,af k2,af k3,af k4,af k5,af k6,af (by omega),af k8,af k9,aj gO]
  rw[gN]at bf;unfold vN at bf;simp only[path]at bf;by_cases a:w 13≠5
  .rw[aj ⟨gO,a⟩]at hn;obtain rfl:=gu hn;rw[show(w 13 != 5)=true by rw[bA,bJ a];rfl,bg]at bf;simp only[path,nx,aI]at bf;rw[bf,w5,<-bf,CP]at a;exact⟨.B6 gO a,by unfold gX;rw[aj (by decide)],by simp⟩
  .rw[af (fun z=>a z.2)]at hn;cases hn
 .rw[af (fun z=>gO z.1)]at hn;cases hn
theorem abb{r:qp}(hr:aM r){o:cL}(ho:cH o=true)(dJ:mc o (fo r o)=none) :
  Out r o (eC o (fo r o)).1 (eC o (fo r o)).2.1:=by
 have gi:cH o=true/\(run (fo r o) (prog o)).2<0:=⟨ho,by rw[FC hr ho];show(-1:Int)<0;omega⟩
 have h:=LD hr ho;unfold g7 at h;rw[aj gi,dJ]at h;exact h
theorem La(o:cL)(got:dY):(eC o got).2.1.length<=4:=by
 unfold eC;split
 .simp
 .split
  .split<;>simp
  .simp
abbrev lQ:=Int×Int×Int×Unit
abbrev fF:=Int×List Int×Unit
abbrev nW:=Int×Int×List eB×fF×Unit
abbrev kU:=Int×Int×Int×Int×Unit
abbrev bw:=List lQ×List nW×Unit
abbrev eP:=List cL×Int×Bool×dY×List kU×Unit
abbrev d8:=Int×cL×Int×Int×Int×fF×Unit
abbrev aN:=bw×List eP×Int×List d8×List Int×qp×Unit
def dE:eB:=(0,0,0,())
def dD:nW:=(0,0,[],(0,[],()),())
def dW:lQ:=(0,0,0,())
def dO:cL:=(0,0,0,())
def dT:eP:=([],0,false,[],[],())
def dC:d8:=(0,dO,0,0,0,(0,[],()),())
def dH:kU:=(0,0,0,0,())
def wd(m:bw)(p:Int):lQ:=m.1.getD p.toNat dW
def aE(m:bw)(t:Int):nW:=m.2.1.getD t.toNat dD
def setW(m:bw)(p:Int)(w:lQ):bw:=(m.1.set p.toNat w,m.2)
def cr(m:bw)(t:Int)(d:nW):bw:=(m.1,m.2.1.set t.toNat d,())
def qi(l:List eB)(i:Int):eB:=l.getD i.toNat dE
def jm(l:List eB)(p:Int):eB:=(l.find? fun e=>decide (e.1=p)).getD dE
def fU(t s:Int):lQ:=(0,t+1,s,())
def m7(m:bw)(p:Int):Int:=
 if (wd m p).2.1=0 then (wd m p).1 else
 if (aE m ((wd m p).2.1-1)).1=(wd m p).2.2.1/\(aE m ((wd m p).2.1-1)).2.1=2 then (jm (aE m ((wd m p).2.1-1)).2.2.1 p).2.2.1 else (jm (aE m ((wd m p).2.1-1)).2.2.1 p).2.1
def q7(m:bw)(h:kU):bw×kU×kU×Int×Unit:=
 if (aE m h.1).1≠h.2.1 then (m,h,dH,2,()) else
 if (aE m h.1).2.1=1 then
  if ((aE m h.1).2.2.1.length:Int)<=h.2.2.1 then (cr m h.1 ((aE m h.1).1,2,(aE m h.1).2.2),h,dH,3,()) else
  if wd m (qi (aE m h.1).2.2.1 h.2.2.1).1=fU h.1 h.2.1 then (m,(h.1,h.2.1,h.2.2.1+1,h.2.2.2),dH,0,()) else
  if (wd m (qi (aE m h.1).2.2.1 h.2.2.1).1).2.1≠0 then (m,h,((wd m (qi (aE m h.1).2.2.1 h.2.2.1).1).2.1-1,(wd m (qi (aE m h.1).2.2.1 h.2.2.1).1).2.2.1,0,0,()),1,()) else
  if (wd m (qi (aE m h.1).2.2.1 h.2.2.1).1).1=(qi (aE m h.1).2.2.1 h.2.2.1).2.1 then (setW m (qi (aE m h.1).2.2.1 h.2.2.1).1 (fU h.1 h.2.1),(h.1,h.2.1,h.2.2.1+1,h.2.2.2),dH,0,())
  else (cr m h.1 ((aE m h.1).1,3,(aE m h.1).2.2),h,dH,0,())
 else if ((aE m h.1).2.2.1.length:Int)<=h.2.2.2.1 then (m,h,dH,2,())
 else (if wd m (qi (aE m h.1).2.2.1 h.2.2.2.1).1=fU h.1 h.2.1 then
   setW m (qi (aE m h.1).2.2.1 h.2.2.2.1).1 (if (aE m h.1).2.1=2 then (qi (aE m h.1).2.2.1 h.2.2.2.1).2.2.1 else (qi (aE m h.1).2.2.1 h.2.2.2.1).2.1,0,0,()) else m,(h.1,h.2.1,h.2.2.1,h.2.2.2.1+1,()),dH,0,())
def aG(m:aN)(t:Int):eP:=m.2.1.getD t.toNat dT
def cO(m:aN)(t:Int)(x:eP):aN:=(m.1,m.2.1.set t.toNat x,m.2.2)
def B_(m:aN)(k:Int):d8:=m.2.2.2.1.getD k.toNat dC
def aY(x:eP):cL:=x.1.getD x.2.1.toNat dO
def qE(l:List d8)(t:Int):Nat->Int
 | 0=>-1
 | i+1=>if (l.getD i dC).1=t/\(l.getD i dC).2.2.2.2.1<0 then (i:Int) else qE l t i
def j3(l:List d8)(t:Int):Int:=qE l t l.length
def jP(m:aN)(t:Int)(s:fF):aN:=
 if j3 m.2.2.2.1 t<0 then m else
 (m.1,m.2.1,m.2.2.1,m.2.2.2.1.set (j3 m.2.2.2.1 t).toNat ((B_ m (j3 m.2.2.2.1 t)).1,(B_ m (j3 m.2.2.2.1 t)).2.1,(B_ m (j3 m.2.2.2.1 t)).2.2.1,m.2.2.1,(B_ m (j3 m.2.2.2.1 t)).2.2.2.2.1,s,()),m.2.2.2.2.1++[j3 m.2.2.2.1 t],m.2.2.2.2.2)
def kY(m:aN)(t:Int)(s:fF):aN:=
 if j3 m.2.2.2.1 t<0 then m else
 (m.1,m.2.1,m.2.2.1,m.2.2.2.1.set (j3 m.2.2.2.1 t).toNat ((B_ m (j3 m.2.2.2.1 t)).1,(B_ m (j3 m.2.2.2.1 t)).2.1,(B_ m (j3 m.2.2.2.1 t)).2.2.1,(B_ m (j3 m.2.2.2.1 t)).2.2.2.1,m.2.2.1,s,()),m.2.2.2.2)
def ez(m:aN)(t:Int)(s:fF):aN:=cO (kY m t s) t ((aG m t).1,(aG m t).2.1+1,false,[],[],())
def bD(x:eP):kU:=x.2.2.2.2.1.getD (x.2.2.2.2.1.length-1) dH
def Rs(x:eP)(h:kU):eP:=(x.1,x.2.1,x.2.2.1,x.2.2.2.1,x.2.2.2.2.1++[h],())
def IE(x:eP)(h:kU):eP:=(x.1,x.2.1,x.2.2.1,x.2.2.2.1,x.2.2.2.2.1.set (x.2.2.2.2.1.length-1) h,())
def nP(x:eP):eP:=(x.1,x.2.1,x.2.2.1,x.2.2.2.1,x.2.2.2.2.1.take (x.2.2.2.2.1.length-1),())
def dj(m:aN)(a:bw):aN:=(a,m.2)
def sk(m:aN)(t:Int):aN:=
  if (q7 m.1 (bD (aG m t))).2.2.2.1=1 then
    (if (bD (aG m t)).1=t/\(aG m t).2.2.2.2.1.length=1 then cO (dj m (q7 m.1 (bD (aG m t))).1) t (Rs (aG m t) (q7 m.1 (bD (aG m t))).2.2.1)
     else cO (dj m (q7 m.1 (bD (aG m t))).1) t (IE (aG m t) (q7 m.1 (bD (aG m t))).2.2.1)) else
  if (q7 m.1 (bD (aG m t))).2.2.2.1=2 then
    (if (bD (aG m t)).1≠t then cO (dj m (q7 m.1 (bD (aG m t))).1) t (nP (aG m t)) else
     if (aE m.1 t).2.1=2 then ez (dj m (q7 m.1 (bD (aG m t))).1) t (aE m.1 t).2.2.2.1
     else cO (dj m (q7 m.1 (bD (aG m t))).1) t ((aG m t).1,(aG m t).2.1,(aG m t).2.2.1,[],[],())) else
  if (q7 m.1 (bD (aG m t))).2.2.2.1=3 then
    cO (jP (dj m (q7 m.1 (bD (aG m t))).1) (bD (aG m t)).1 (aE m.1 (bD (aG m t)).1).2.2.2.1) t (IE (aG m t) (q7 m.1 (bD (aG m t))).2.1)
  else cO (dj m (q7 m.1 (bD (aG m t))).1) t (IE (aG m t) (q7 m.1 (bD (aG m t))).2.1)
def D7(x:eP):Int:=(run x.2.2.2.1 (prog (aY x))).2
def lY(m:aN)(x:eP):dY:=x.2.2.2.1++[(D7 x,(wd m.1 (D7 x)).1,())]
def vI(x:eP)(g:dY):eP:=(x.1,x.2.1,x.2.2.1,g,x.2.2.2.2)
def Hw(m:aN)(t:Int):aN:=
 if (wd m.1 (D7 (aG m t))).2.1≠0 then cO m t (Rs (aG m t) ((wd m.1 (D7 (aG m t))).2.1-1,(wd m.1 (D7 (aG m t))).2.2.1,0,0,())) else
 if (g7 (aY (aG m t)) (lY m (aG m t))).2.1=false then cO m t (vI (aG m t) (lY m (aG m t))) else
 if (g7 (aY (aG m t)) (lY m (aG m t))).1.1=true then ez (jP m t (g7 (aY (aG m t)) (lY m (aG m t))).1.2.1) t (g7 (aY (aG m t)) (lY m (aG m t))).1.2.1 else
 cO (dj m (cr m.1 t ((aE m.1 t).1+1,1,(g7 (aY (aG m t)) (lY m (aG m t))).1.2.2.1,(g7 (aY (aG m t)) (lY m (aG m t))).1.2.1,()))) t
  (Rs (vI (aG m t) (lY m (aG m t))) (t,(aE m.1 t).1+1,0,0,()))
def tick(m:aN):aN:=(m.1,m.2.1,m.2.2.1+1,m.2.2.2)
def rK(m:aN)(t:Int):aN:=
 cO (m.1,m.2.1,m.2.2.1,m.2.2.2.1++[(t,aY (aG m t),m.2.2.1,-1,-1,(0,[],()),())],m.2.2.2.2) t ((aG m t).1,(aG m t).2.1,true,(aG m t).2.2.2)
def BP(m:aN)(t:Int):aN:=
 if (aG m t).2.2.1=false then rK (tick m) t else
 if (aG m t).2.2.2.2.1≠[] then sk (tick m) t else Hw (tick m) t
theorem Ko{α:Type}(l:List α)(i j:Nat)(x d:α):(l.set i x).getD j d=if i=j/\j<l.length then x else l.getD j d:=by
 simp only[FT,jv];by_cases h:i=j
 .subst h;by_cases h2:i<l.length
  .simp[h2]
  .simp[h2]
 .simp[h]
theorem SS{m:bw}{p q:Int}{w:lQ}(hp:0<=p/\p<m.1.length)(hq:0<=q):wd (setW m p w) q=if q=p then w else wd m q:=by
 unfold wd setW;dsimp only;rw[Ko];by_cases h:q=p
 .subst h;rw[aj ⟨rfl,by omega⟩,aj rfl]
 .rw[af (by omega),af h]
theorem IC{m:bw}{u t:Int}{d:nW}(hu:0<=u/\u<m.2.1.length)(ht:0<=t):aE (cr m u d) t=if t=u then d else aE m t:=by
 unfold aE cr;dsimp only;rw[Ko];by_cases h:t=u
 .subst h;rw[aj ⟨rfl,by omega⟩,aj rfl]
 .rw[af (by omega),af h]
theorem tw{m:aN}{u t:Int}{x:eP}(hu:0<=u/\u<m.2.1.length)(ht:0<=t):aG (cO m u x) t=if t=u then x else aG m t:=by
 unfold aG cO;dsimp only;rw[Ko];by_cases h:t=u
 .subst h;rw[aj ⟨rfl,by omega⟩,aj rfl]
 .rw[af (by omega),af h]
theorem sn(m:aN)(u:Int)(x:eP):(cO m u x).2.1.length=m.2.1.length:=by unfold cO;simp
theorem Rk{m m':aN}(h:m'.2.1=m.2.1)(t:Int):aG m' t=aG m t:=by unfold aG;rw[h]
theorem KQ(m:bw)(p:Int)(w:lQ):(setW m p w).1.length=m.1.length:=by unfold setW;simp
theorem F6(m:bw)(p:Int)(w:nW):(cr m p w).2.1.length=m.2.1.length:=by unfold cr;simp
theorem AA{l:List eB}(h:lH l){i:Int}(h0:0<=i)(h1:i<l.length):jm l (qi l i).1=qi l i:=by
 have key:∀(l:List eB),lH l->∀k:Nat,(hk:k<l.length)->l.find? (fun e=>decide (e.1=l[k].1))=some l[k]:=by
  intro l
  induction l with
  | nil=>intro _ k hk;simp at hk
  | cons a l ih=>
   intro hs k hk;rw[lH,kS]at hs;cases k with
   | zero=>simp
   | succ k=>
    have hk2:k<l.length:=by simpa using hk
    simp only[EE];have:=hs.1 (l[k]'hk2) (ef _);rw[List.find?_cons,show decide (a.1=(l[k]'hk2).1)=false from bJ (by omega)];exact ih hs.2 k hk2
 have hk:i.toNat<l.length:=by omega
 unfold jm qi;rw[qv hk,key l h _ hk];rfl
theorem SZ{l:List eB}{i:Int}(h0:0<=i)(h1:i<l.length):qi l i∈l:=by
 have hk:i.toNat<l.length:=by omega
 unfold qi;rw[qv hk];exact ef _
theorem P7{l:List eB}{e:eB}(h:e∈l):∃i:Int,0<=i/\i<l.length/\qi l i=e:=by obtain⟨k,hk,rfl⟩:=kR.1 h;refine⟨(k:Int),by omega,by omega,?_⟩;unfold qi;rw[dQ,qv hk]
theorem P6{l:List eB}(h:lH l){i j:Int}(h0:0<=i)(h1:i<j)(h2:j<l.length):(qi l i).1<(qi l j).1:=by
 have hi:i.toNat<l.length:=by omega
 have hj:j.toNat<l.length:=by omega
 unfold qi;rw[qv hi,qv hj];exact AN.1 h _ _ hi hj (by omega)
theorem aaD{l:List eB}(h:lH l){i j:Int}(h0:0<=i)(h1:i<l.length)(g0:0<=j)(g1:j<l.length)(e:(qi l i).1=(qi l j).1):i=j:=by
 rcases Int.lt_trichotomy i j with k | k | k
 .have:=P6 h h0 k g1;omega
 .exact k
 .have:=P6 h g0 k h1;omega
def b9(x:eP)(t:Int):Bool:=match x.2.2.2.2.1 with
 | []=>false
 | h::_=>decide (h.1=t)
structure n8 (d:nW) (time:Int):Prop where
 B8:lH d.2.2.1
 len:d.2.2.1.length<=8
 dL:∀e∈d.2.2.1,(0<=e.1/\e.1<20)/\(0<=e.2.1/\e.2.1<=1000)/\(0<=e.2.2.1/\e.2.2.1<=1000)
 seq:0<=d.1/\d.1<=time
 st:(d.1=0->d=dD)/\(1<=d.1->1<=d.2.1/\d.2.1<=3)
 rl:d.2.2.2.1.2.1.length<=4
def Sn(w:lQ):Prop:=w.2.1=0/\w.2.2.1=0/\0<=w.1/\w.1<=1000
def A_(m:bw)(n:Nat)(own:Int->Prop)(p:Int):Prop:=
 ∃u:Int,0<=u/\u<n/\own u/\wd m p=fU u (aE m u).1/\∃i:Int,0<=i/\i<(aE m u).2.2.1.length/\(qi (aE m u).2.2.1 i).1=p
structure fz (m:bw) (n:Nat) (time:Int) (own:Int->Prop):Prop where
 len:m.1.length=20
 f5:m.2.1.length=n
 dI:∀t:Int,0<=t->t<n->n8 (aE m t) time
 word:∀p:Int,0<=p->p<20->Sn (wd m p)\/A_ m n own p
 l_:∀t:Int,0<=t->t<n->(aE m t).2.1=1->own t
 lu:∀t:Int,0<=t->t<n->own t->1<=(aE m t).1
 pre:∀t:Int,0<=t->t<n->(aE m t).2.1=1->∀i j:Int,0<=i->i<j->j<(aE m t).2.2.1.length->wd m (qi (aE m t).2.2.1 j).1=fU t (aE m t).1->wd m (qi (aE m t).2.2.1 i).1=fU t (aE m t).1
structure cv (m:bw) (n:Nat) (h:kU):Prop where
 t:0<=h.1/\h.1<n
 seq:1<=h.2.1/\h.2.1<=(aE m h.1).1
 v_:0<=h.2.2.1/\h.2.2.1<=8
 fin:0<=h.2.2.2.1/\h.2.2.2.1<=8
 cur:h.2.1=(aE m h.1).1->h.2.2.1<=(aE m h.1).2.2.1.length/\h.2.2.2.1<=(aE m h.1).2.2.1.length/\
  ((aE m h.1).2.1=1->h.2.2.2.1=0/\∀i:Int,0<=i->i<h.2.2.1->wd m (qi (aE m h.1).2.2.1 i).1=fU h.1 h.2.1)/\
  ((aE m h.1).2.1≠1->∀i:Int,0<=i->i<h.2.2.2.1->wd m (qi (aE m h.1).2.2.1 i).1≠fU h.1 h.2.1)
theorem Rr{a b s r:Int}(h:fU a s=fU b r):a=b/\s=r:=by simp only[fU,a_]at h;omega
theorem IP{w:lQ}(h:w.2.1=0){a s:Int}(ha:0<=a):w≠fU a s:=fun e=>by rw[e]at h;simp only[fU]at h;omega
theorem fz.iF{m:bw}{n:Nat}{time:Int}{own:Int->Prop}(I:fz m n time own){t i:Int}(h0:0<=t)(h1:t<n)(i0:0<=i)(i1:i<(aE m t).2.2.1.length) :
  (0<=(qi (aE m t).2.2.1 i).1/\(qi (aE m t).2.2.1 i).1<20)/\(0<=(qi (aE m t).2.2.1 i).2.1/\(qi (aE m t).2.2.1 i).2.1<=1000)/\(0<=(qi (aE m t).2.2.1 i).2.2.1/\(qi (aE m t).2.2.1 i).2.2.1<=1000):=
 (I.dI t h0 h1).dL _ (SZ i0 i1)
theorem fz.HH{m:bw}{n:Nat}{time:Int}{own:Int->Prop}(I:fz m n time own){t:Int}(h0:0<=t)(h1:t<n)(hs:(aE m t).2.1≠0):1<=(aE m t).1:=by
 have:=(I.dI t h0 h1).seq;by_cases h:(aE m t).1=0
 .exact absurd (by rw[((I.dI t h0 h1).st.1 h)];rfl) hs
 .omega
theorem CJ{m:bw}{p:Int}(h:(wd m p).2.1=0):m7 m p=(wd m p).1:=by unfold m7;rw[aj h]
theorem Hs{m:bw}{u p:Int}(hu:0<=u)(h:wd m p=fU u (aE m u).1):m7 m p=if (aE m u).2.1=2 then (jm (aE m u).2.2.1 p).2.2.1 else (jm (aE m u).2.2.1 p).2.1:=by
 have e1:(wd m p).2.1=u+1:=by rw[h];rfl
 have e2:(wd m p).2.2.1=(aE m u).1:=by rw[h];rfl
 have e3:(wd m p).2.1-1=u:=by omega
 unfold m7;rw[af (by omega),e3,e2];by_cases h2:(aE m u).2.1=2
 .rw[aj ⟨rfl,h2⟩,aj h2]
 .rw[af (fun q=>h2 q.2),af h2]
theorem fz.kz{m:bw}{n:Nat}{time:Int}{own lq:Int->Prop}(I:fz m n time own)(h:∀t:Int,0<=t->t<n->(own t↔lq t)):fz m n time lq where
 len:=I.len
 f5:=I.f5
 dI:=I.dI
 word:=fun p h0 h1=>(I.word p h0 h1).imp id fun⟨u,a,b,c,d⟩=>⟨u,a,b,(h u a b).1 c,d⟩
 l_:=fun t a b c=>(h t a b).1 (I.l_ t a b c)
 lu:=fun t a b c=>I.lu t a b ((h t a b).2 c)
 pre:=I.pre
theorem n8.mono{d:nW}{a b:Int}(h:n8 d a)(hab:a<=b):n8 d b:=⟨h.B8,h.len,h.dL,⟨h.seq.1,by have:=h.seq.2;omega⟩,h.st,h.rl⟩
theorem fz.Ct{m:bw}{n:Nat}{time time':Int}{own:Int->Prop}(I:fz m n time own)(h:time<=time'):fz m n time' own:=⟨I.len,I.f5,fun t a b=>(I.dI t a b).mono h,I.word,I.l_,I.lu,I.pre⟩
theorem ahb{m:bw}{n:Nat}{time:Int}{own:Int->Prop}(I:fz m n time own){t:Int}(h0:0<=t)(hn:¬ own t){p:Int}(p0:0<=p)(p1:p<20)(s:Int):wd m p≠fU t s:=by
 intro e;rcases I.word p p0 p1 with h | ⟨u,a,b,c,d,_⟩
 .exact IP h.1 h0 e
 .rw[e]at d;obtain⟨rfl,_⟩:=Rr d;exact hn c
section
variable {m:bw} {n:Nat} {time:Int} {own:Int->Prop} (I:fz m n time own) {u:Int} (u0:0<=u) (u1:u<n)
include I u0 u1
theorem Ii{i:Int}(hs:(aE m u).2.1=1)(i0:0<=i)(i1:i<(aE m u).2.2.1.length)(hw:(wd m (qi (aE m u).2.2.1 i).1).2.1=0)(hold:(wd m (qi (aE m u).2.2.1 i).1).1=(qi (aE m u).2.2.1 i).2.1)
  (hb:∀j:Int,0<=j->j<i->wd m (qi (aE m u).2.2.1 j).1=fU u (aE m u).1) :
  fz (setW m (qi (aE m u).2.2.1 i).1 (fU u (aE m u).1)) n time own/\(∀p:Int,0<=p->p<20->m7 (setW m (qi (aE m u).2.2.1 i).1 (fU u (aE m u).1)) p=m7 m p)/\
  (∀h,cv m n h->cv (setW m (qi (aE m u).2.2.1 i).1 (fU u (aE m u).1)) n h):=by
 have he:=I.iF u0 u1 i0 i1;have rM:=(I.dI u u0 u1).B8;have hlen:=I.len;have rP:=AA rM i0 i1;generalize hp:(qi (aE m u).2.2.1 i).1=P at *;have m3:∀q,0<=q->wd (setW m P (fU u (aE m u).1)) q=if q=P then fU u (aE m u).1 else wd m q:=fun q hq=>SS (by omega) hq
 have hd:∀t,aE (setW m P (fU u (aE m u).1)) t=aE m t:=fun t=>rfl;have hkeep:∀q t s,0<=t->0<=q->wd m q=fU t s->wd (setW m P (fU u (aE m u).1)) q=fU t s:=by
  intro q t s t0 q0 e;rw[m3 q q0];by_cases h:q=P
  .subst h;exact absurd e (IP hw t0)
  .rw[af h];exact e
 have hnm:∀q t,0<=q->t≠u->wd (setW m P (fU u (aE m u).1)) q=fU t (aE m t).1->wd m q=fU t (aE m t).1:=by
  intro q t q0 tu e;rw[m3 q q0]at e;by_cases h:q=P
  .rw[aj h]at e;exact absurd (Rr e).1.symm tu
  .rw[af h]at e;exact e
 refine⟨⟨by rw[KQ];exact I.len,I.f5,I.dI,?_,I.l_,I.lu,?_⟩,?_,?_⟩
 .intro p p0 p1;unfold A_;rw[m3 p p0];by_cases h:p=P
  .subst h;rw[aj rfl];exact .inr ⟨u,u0,u1,I.l_ u u0 u1 hs,rfl,i,i0,i1,hp⟩
  .rw[af h];exact I.word p p0 p1
 .intro t t0 t1 ts a b a0 ab b1 e;rw[hd] at *;have zM:=I.iF t0 t1 a0 (by omega:a<_);have SA:=I.iF t0 t1 (by omega:0<=b) b1;by_cases htu:t=u
  .subst htu;rw[m3 _ SA.1.1]at e;by_cases h:(qi (aE m t).2.2.1 b).1=P
   .have hbi:b=i:=aaD rM (by omega) b1 i0 i1 (by rw[h,hp]);exact hkeep _ _ _ t0 zM.1.1 (hb a a0 (by omega))
   .rw[af h]at e;exact hkeep _ _ _ t0 zM.1.1 (I.pre t t0 t1 ts a b a0 ab b1 e)
  .exact hkeep _ _ _ t0 zM.1.1 (I.pre t t0 t1 ts a b a0 ab b1 (hnm _ t SA.1.1 htu e))
 .intro p p0 p1;by_cases h:p=P
  .subst h;rw[CJ hw,Hs u0 (by rw[m3 p p0,aj rfl,hd]),hd,af (by omega),rP,hold]
  .unfold m7;rw[m3 p p0,af h];rfl
 .intro h H;refine⟨H.t,H.seq,H.v_,H.fin,fun e=>?_⟩;obtain⟨a,b,c,d⟩:=H.cur e;refine⟨a,b,fun hs'=>⟨(c hs').1,fun j j0 j1=>?_⟩,fun hs' j j0 j1=>?_⟩
  .exact hkeep _ _ _ H.t.1 (I.iF H.t.1 H.t.2 j0 (by omega)).1.1 ((c hs').2 j j0 j1)
  .intro q;have hne:h.1≠u:=fun e2=>hs' (by rw[hd,e2];exact hs);have hj:=I.iF H.t.1 H.t.2 j0 (show j<_ by omega);have e':h.2.1=(aE m h.1).1:=e;rw[hd,e']at q;exact d hs' j j0 j1 (by rw[e'];exact hnm _ _ hj.1.1 hne q)
theorem ZK{i:Int}(hs:(aE m u).2.1≠1)(i0:0<=i)(i1:i<(aE m u).2.2.1.length)(hw:wd m (qi (aE m u).2.2.1 i).1=fU u (aE m u).1) :
  fz (setW m (qi (aE m u).2.2.1 i).1 (if (aE m u).2.1=2 then (qi (aE m u).2.2.1 i).2.2.1 else (qi (aE m u).2.2.1 i).2.1,0,0,())) n time own/\
  (∀p:Int,0<=p->p<20->m7 (setW m (qi (aE m u).2.2.1 i).1 (if (aE m u).2.1=2 then (qi (aE m u).2.2.1 i).2.2.1 else (qi (aE m u).2.2.1 i).2.1,0,0,())) p=m7 m p)/\
  (∀h,cv m n h->cv (setW m (qi (aE m u).2.2.1 i).1 (if (aE m u).2.1=2 then (qi (aE m u).2.2.1 i).2.2.1 else (qi (aE m u).2.2.1 i).2.1,0,0,())) n h):=by
 have he:=I.iF u0 u1 i0 i1;have rM:=(I.dI u u0 u1).B8;have hlen:=I.len;have rP:=AA rM i0 i1;have hv:0<=(if (aE m u).2.1=2 then (qi (aE m u).2.2.1 i).2.2.1 else (qi (aE m u).2.2.1 i).2.1)/\(if (aE m u).2.1=2 then (qi (aE m u).2.2.1 i).2.2.1 else (qi (aE m u).2.2.1 i).2.1)<=1000:=by split<;>omega
 have hval:m7 m (qi (aE m u).2.2.1 i).1=(if (aE m u).2.1=2 then (qi (aE m u).2.2.1 i).2.2.1 else (qi (aE m u).2.2.1 i).2.1):=by rw[Hs u0 hw,rP]
 generalize (if (aE m u).2.1=2 then (qi (aE m u).2.2.1 i).2.2.1 else (qi (aE m u).2.2.1 i).2.1)=v at *;generalize hp:(qi (aE m u).2.2.1 i).1=P at *;have m3:∀q,0<=q->wd (setW m P (v,0,0,())) q=if q=P then (v,0,0,()) else wd m q:=fun q hq=>SS (by omega) hq
 have hd:∀t,aE (setW m P (v,0,0,())) t=aE m t:=fun t=>rfl;have hkeep:∀q t,t≠u->0<=q->wd m q=fU t (aE m t).1->wd (setW m P (v,0,0,())) q=fU t (aE m t).1:=by
  intro q t tu q0 e;rw[m3 q q0];by_cases h:q=P
  .subst h;rw[hw]at e;exact absurd (Rr e).1.symm tu
  .rw[af h];exact e
 have fl:∀q t s,0<=t->0<=q->wd (setW m P (v,0,0,())) q=fU t s->wd m q=fU t s:=by
  intro q t s t0 q0 e;rw[m3 q q0]at e;by_cases h:q=P
  .rw[aj h]at e;exact absurd e (IP rfl t0)
  .rw[af h]at e;exact e
 refine⟨⟨by rw[KQ];exact I.len,I.f5,I.dI,?_,I.l_,I.lu,?_⟩,?_,?_⟩
 .intro p p0 p1;unfold A_;rw[m3 p p0];by_cases h:p=P
  .rw[aj h];exact .inl ⟨rfl,rfl,hv.1,hv.2⟩
  .rw[af h];exact I.word p p0 p1
 .intro t t0 t1 ts a b a0 ab b1 e;rw[hd] at *;have zM:=I.iF t0 t1 a0 (by omega:a<_);have SA:=I.iF t0 t1 (by omega:0<=b) b1;have htu:t≠u:=fun e2=>hs (by rw[<-e2];exact ts);exact hkeep _ _ htu zM.1.1 (I.pre t t0 t1 ts a b a0 ab b1 (fl _ t _ t0 SA.1.1 e))
 .intro p p0 p1;by_cases h:p=P
  .subst h;rw[hval,CJ (by rw[m3 p p0,aj rfl]),m3 p p0,aj rfl]
  .unfold m7;rw[m3 p p0,af h];rfl
 .intro h H;refine⟨H.t,H.seq,H.v_,H.fin,fun e=>?_⟩;obtain⟨a,b,c,d⟩:=H.cur e;refine⟨a,b,fun hs'=>⟨(c hs').1,fun j j0 j1=>?_⟩,fun hs' j j0 j1 q=>?_⟩
  .have hne:h.1≠u:=fun e2=>hs (by rw[<-e2];exact hs');have hj:=I.iF H.t.1 H.t.2 j0 (show j<_ by omega);have e':h.2.1=(aE m h.1).1:=e;have:=(c hs').2 j j0 j1;rw[e']at this;show wd _ (qi (aE m h.1).2.2.1 j).1=_;rw[e'];exact hkeep _ _ hne hj.1.1 this
  .exact d hs' j j0 j1 (fl _ _ _ H.t.1 (I.iF H.t.1 H.t.2 j0 (show j<_ by omega)).1.1 q)
theorem O0{c:Int}(hs:(aE m u).2.1=1)(hc:c=2\/c=3) :
  fz (cr m u ((aE m u).1,c,(aE m u).2.2)) n time own/\(∀h,cv m n h->cv (cr m u ((aE m u).1,c,(aE m u).2.2)) n h)/\
  (∀p:Int,0<=p->p<20->m7 (cr m u ((aE m u).1,c,(aE m u).2.2)) p=if c=2/\wd m p=fU u (aE m u).1 then (jm (aE m u).2.2.1 p).2.2.1 else m7 m p):=by
 have nA:=I.f5;have hd:∀t:Int,0<=t->aE (cr m u ((aE m u).1,c,(aE m u).2.2)) t=if t=u then ((aE m u).1,c,(aE m u).2.2) else aE m t:=fun t t0=>IC (by omega) t0
 have rO:∀t:Int,0<=t->(aE (cr m u ((aE m u).1,c,(aE m u).2.2)) t).1=(aE m t).1:=by
  intro t t0;rw[hd t t0];split
  .next h=>rw[h]
  .rfl
 have Sy:∀t:Int,0<=t->(aE (cr m u ((aE m u).1,c,(aE m u).2.2)) t).2.2=(aE m t).2.2:=by
  intro t t0;rw[hd t t0];split
  .next h=>rw[h]
  .rfl
 have vr:∀t:Int,0<=t->(aE (cr m u ((aE m u).1,c,(aE m u).2.2)) t).2.1=if t=u then c else (aE m t).2.1:=by intro t t0;rw[hd t t0];split<;>rfl
 refine⟨⟨I.len,by rw[F6];exact I.f5,?_,?_,?_,?_,?_⟩,?_,?_⟩
 .intro t t0 t1;rw[hd t t0];have D:=I.dI t t0 t1;split
  .next h=>subst h;have hq:=I.HH t0 t1 (by omega);exact⟨D.B8,D.len,D.dL,D.seq,⟨fun e=>by dsimp only at e;omega,fun _=>by dsimp only;omega⟩,D.rl⟩
  .exact D
 .intro p p0 p1;rcases I.word p p0 p1 with h | ⟨v,a,b,c',d,i,e⟩
  .exact .inl h
  .refine .inr ⟨v,a,b,c',?_,i,?_⟩
   .rw[rO v a];exact d
   .rw[Sy v a];exact e
 .intro t t0 t1 e;rw[vr t t0]at e;split at e
  .omega
  .exact I.l_ t t0 t1 e
 .intro t t0 t1 e;rw[rO t t0];exact I.lu t t0 t1 e
 .intro t t0 t1 e;rw[vr t t0]at e;split at e
  .omega
  .rw[Sy t t0,rO t t0];exact I.pre t t0 t1 e
 .intro h H;have h0:=H.t.1;have ud:=H.seq;refine⟨H.t,by rw[rO _ h0];exact H.seq,H.v_,H.fin,fun e=>?_⟩;rw[rO _ h0]at e;obtain⟨a,b,x,y⟩:=H.cur e;rw[Sy _ h0,vr _ h0];refine⟨a,b,fun hs'=>?_,fun hs'=>?_⟩
  .by_cases hu:h.1=u
   .rw[aj hu]at hs';omega
   .rw[af hu]at hs';exact x hs'
  .by_cases hu:h.1=u
   .have:=(x (by rw[hu];exact hs)).1;intro i i0 i1;omega
   .rw[af hu]at hs';exact y hs'
 .intro p p0 p1;rcases I.word p p0 p1 with h | ⟨v,a,b,c',d,i,i0,i1,e⟩
  .rw[af (fun q=>IP h.1 u0 q.2),CJ (m:=m) h.1,CJ (m:=cr m u _) h.1];rfl
  .rw[Hs (m:=m) a d,Hs (m:=cr m u _) a (by rw[rO v a];exact d),vr v a,Sy v a];by_cases hv:v=u
   .subst hv;rw[aj rfl,hs,af (show ¬ (1:Int)=2 by decide)];by_cases c2:c=2
    .rw[aj c2,aj ⟨c2,d⟩]
    .rw[af c2,af (fun q=>c2 q.1)]
   .rw[af hv,af (show ¬ (c=2/\_) from fun q=>hv (Rr (d.symm.trans q.2)).1)]
end
theorem ajF{m:bw}{n:Nat}{time:Int}{own lq:Int->Prop}(I:fz m n time own){u:Int}(u0:0<=u)(u1:u<n)(hno:¬ own u)(ho:lq u)(JK:∀t:Int,0<=t->t≠u->(own t↔lq t)){E:List eB}{r:fF}
  (hE:lH E) (hl:E.length<=8) (hr:∀e∈E,(0<=e.1/\e.1<20)/\(0<=e.2.1/\e.2.1<=1000)/\(0<=e.2.2.1/\e.2.2.1<=1000)) (ht:(aE m u).1+1<=time) (hrl:r.2.1.length<=4) :
  fz (cr m u ((aE m u).1+1,1,E,r,())) n time lq/\(∀h,cv m n h->cv (cr m u ((aE m u).1+1,1,E,r,())) n h)/\
  (∀p:Int,0<=p->p<20->m7 (cr m u ((aE m u).1+1,1,E,r,())) p=m7 m p):=by
 have nA:=I.f5;have hd:∀t:Int,0<=t->aE (cr m u ((aE m u).1+1,1,E,r,())) t=if t=u then ((aE m u).1+1,1,E,r,()) else aE m t:=fun t t0=>IC (by omega) t0
 have Dm:=(hd u u0).trans (aj rfl);have iQ:∀t:Int,0<=t->t≠u->aE (cr m u ((aE m u).1+1,1,E,r,())) t=aE m t:=fun t t0 h=>(hd t t0).trans (af h);have VF:=fun {p:Int} (p0:0<=p) (p1:p<20) (s:Int)=>ahb I u0 hno p0 p1 s;have D:=I.dI u u0 u1;refine⟨⟨I.len,by rw[F6];exact I.f5,?_,?_,?_,?_,?_⟩,?_,?_⟩
 .intro t t0 t1;by_cases h:t=u
  .subst h;rw[Dm];have:=D.seq;exact⟨hE,hl,hr,⟨by dsimp only;omega,ht⟩,⟨fun e=>by dsimp only at e;omega,fun _=>by dsimp only;omega⟩,hrl⟩
  .rw[iQ t t0 h];exact I.dI t t0 t1
 .intro p p0 p1;rcases I.word p p0 p1 with h | ⟨v,a,b,c',d,i,e⟩
  .exact .inl h
  .have hv:v≠u:=fun q=>hno (q ▸ c');refine .inr ⟨v,a,b,(JK v a hv).1 c',?_,i,?_⟩
   .rw[iQ v a hv];exact d
   .rw[iQ v a hv];exact e
 .intro t t0 t1 e;by_cases h:t=u
  .rw[h];exact ho
  .rw[iQ t t0 h]at e;exact(JK t t0 h).1 (I.l_ t t0 t1 e)
 .intro t t0 t1 e;have:=D.seq;by_cases h:t=u
  .rw[h,Dm];dsimp only;omega
  .rw[iQ t t0 h];exact I.lu t t0 t1 ((JK t t0 h).2 e)
 .intro t t0 t1 e i j i0 ij j1 hj;by_cases h:t=u
  .subst h;rw[Dm]at hj j1;dsimp only at hj j1;have:=hr _ (SZ (show 0<=j by omega) j1);exact absurd hj (VF this.1.1 this.1.2 _)
  .rw[iQ t t0 h]at e j1 hj⊢;exact I.pre t t0 t1 e i j i0 ij j1 hj
 .intro h H;have hs:=H.seq;by_cases hu:h.1=u
  .have hs':=H.seq;rw[hu]at hs';refine⟨H.t,by rw[hu,Dm];dsimp only;omega,H.v_,H.fin,fun e=>?_⟩;rw[hu,Dm]at e;dsimp only at e;omega
  .refine⟨H.t,by rw[iQ _ H.t.1 hu];exact H.seq,H.v_,H.fin,?_⟩;rw[iQ _ H.t.1 hu];exact H.cur
 .intro p p0 p1;rcases I.word p p0 p1 with h | ⟨v,a,b,c',d,i,e⟩
  .rw[CJ (m:=m) h.1,CJ (m:=cr m u _) h.1];rfl
  .have hv:v≠u:=fun q=>hno (q ▸ c');rw[Hs (m:=m) a d,Hs (m:=cr m u _) a (by rw[iQ v a hv];exact d),iQ v a hv]
def au(l:List d8)(k:Int):d8:=l.getD k.toNat dC
def vU(l:List d8)(t:Int):Nat:=(l.filter fun c=>decide (c.1=t/\0<=c.2.2.2.2.1)).length
structure C2 (c:d8) (n:Nat) (time:Int):Prop where
 t:0<=c.1/\c.1<n
 op:cH c.2.1=true
 start:0<=c.2.2.1/\c.2.2.1<=time
 o6:c.2.2.2.1 = -1\/c.2.2.1<=c.2.2.2.1/\c.2.2.2.1<=time
 fin:c.2.2.2.2.1 = -1\/0<=c.2.2.2.1/\c.2.2.2.1<=c.2.2.2.2.1/\c.2.2.2.2.1<=time
 len:c.2.2.2.2.2.1.2.1.length<=4
structure f4 (l:List d8) (t k:Int):Prop where
 dL:0<=k/\k<l.length
 t:(au l k).1=t
 fin:(au l k).2.2.2.2.1 = -1
structure gh (l:List d8) (ord:List Int) (n:Nat) (time:Int) (on:Int->Bool) (pc:Int->Int) (op:Int->cL) (yes:Int->Option fF):Prop where
 c:∀k:Int,0<=k->k<l.length->C2 (au l k) n time
 before:∀j k:Int,0<=j->j<k->k<l.length->(au l j).1=(au l k).1->0<=(au l j).2.2.2.2.1/\(au l j).2.2.2.2.1<(au l k).2.2.1
 cnt:∀t:Int,0<=t->t<n->(vU l t:Int)=pc t
 l_:∀t:Int,0<=t->t<n->on t=true->∃k,f4 l t k/\(au l k).2.1=op t
 off:∀t:Int,0<=t->t<n->on t=false->∀k:Int,0<=k->k<l.length->(au l k).1=t->0<=(au l k).2.2.2.2.1
 o6:∀t k:Int,0<=t->t<n->f4 l t k->(yes t=none->(au l k).2.2.2.1 = -1)/\(∀r,yes t=some r->0<=(au l k).2.2.2.1/\(au l k).2.2.2.2.2.1=r)
 f6:∀k∈ord,0<=k/\k<l.length/\0<=(au l k).2.2.2.1
 nodup:ord.Nodup
 sort:ord.Pairwise fun a b=>(au l a).2.2.2.1<=(au l b).2.2.2.1
 all:∀k:Int,0<=k->k<l.length->0<=(au l k).2.2.2.1->k∈ord
theorem Gc{l:List d8}{c:d8}{k:Int}(h:0<=k):au (l++[c]) k=if k<l.length then au l k else if k=l.length then c else dC:=by
 unfold au;simp only[FT,List.getElem?_append];by_cases h1:k<l.length
 .rw[aj (by omega),aj h1]
 .rw[af (by omega),af h1];by_cases h2:k=l.length
  .rw[aj h2,show k.toNat-l.length=0 by omega];rfl
  .rw[af h2];have:k.toNat-l.length≠0:=by omega
   obtain⟨q,hq⟩:=Nat.exists_eq_succ_of_ne_zero this;rw[hq];rfl
theorem CU{l:List d8}{c:d8}{i k:Int}(hi:0<=i/\i<l.length)(h:0<=k):au (l.set i.toNat c) k=if k=i then c else au l k:=by
 unfold au;rw[Ko];by_cases h1:k=i
 .subst h1;rw[aj ⟨rfl,by omega⟩,aj rfl]
 .rw[af (by omega),af h1]
theorem O2(l:List d8)(c:d8)(t:Int):vU (l++[c]) t=vU l t+(if c.1=t/\0<=c.2.2.2.2.1 then 1 else 0):=by
 unfold vU;rw[G_,cw];by_cases h:c.1=t/\0<=c.2.2.2.2.1
 .rw[aj h];simp[h]
 .rw[af h,show List.filter (fun c=>decide (c.1=t/\0<=c.2.2.2.2.1)) [c]=[] by simp only[Aa,List.filter_nil];rw[bJ h];rfl];rfl
theorem O3(l:List d8)(c:d8)(t:Int):∀(i:Nat)(h:i<l.length),vU (l.set i c) t+(if l[i].1=t/\0<=l[i].2.2.2.2.1 then 1 else 0)=vU l t+(if c.1=t/\0<=c.2.2.2.2.1 then 1 else 0):=by
 induction l with
 | nil=>intro i h;simp at h
 | cons a l ih=>
  intro i h;have hc:∀(x:d8)(l:List d8),vU (x::l) t=(if x.1=t/\0<=x.2.2.2.2.1 then 1 else 0)+vU l t:=by
   intro x l;unfold vU;rw[Aa];by_cases hx:x.1=t/\0<=x.2.2.2.2.1
   .rw[aj hx,cT hx,aj rfl,ct];omega
   .rw[af hx,bJ hx,af (by simp)];omega
  cases i with
  | zero=>simp only[List.set_cons_zero,G3];rw[hc,hc];omega
  | succ i=>simp only[List.set_cons_succ,EE];have:=ih i (by simpa using h);rw[hc,hc];omega
section
variable {l:List d8} {ord:List Int} {n:Nat} {time:Int} {on:Int->Bool} {pc:Int->Int} {op:Int->cL} {yes:Int->Option fF} (I:gh l ord n time on pc op yes)
include I
theorem gh.uniq{t i k:Int}(hi:f4 l t i)(hk:f4 l t k):i=k:=by
 rcases Int.lt_trichotomy i k with h | h | h
 .have:=(I.before i k hi.dL.1 h hk.dL.2 (hi.t.trans hk.t.symm)).1;have:=hi.fin;omega
 .exact h
 .have:=(I.before k i hk.dL.1 h hi.dL.2 (hk.t.trans hi.t.symm)).1;have:=hk.fin;omega
theorem gh.tj{t k:Int}(hk:f4 l t k):∀j:Nat,j<=l.length->qE l t j=if k<j then k else -1
 | 0,_=>by rw[af (by have:=hk.dL;omega)];rfl
 | j+1,hj=>by
  simp only[qE];by_cases h:(l.getD j dC).1=t/\(l.getD j dC).2.2.2.2.1<0
  .rw[aj h];have h1:=(I.c (j:Int) (by omega) (by omega)).fin;have e:au l (j:Int)=l.getD j dC:=by unfold au;rw[dQ]
   rw[e]at h1;have:f4 l t (j:Int):=⟨⟨by omega,by omega⟩,by rw[e];exact h.1,by rw[e];omega⟩
   have:=I.uniq this hk;rw[aj (by omega)];exact this
  .rw[af h,gh.tj hk j (by omega)];by_cases h2:k<j
   .rw[aj h2,aj (by omega)]
   .rw[af h2,af];intro h3;have e:k=(j:Int):=by omega
    have h4:=hk.t;have h5:=hk.fin
    rw[e]at h4 h5;unfold au at h4 h5;rw[dQ]at h4 h5;exact h ⟨h4,by omega⟩
theorem gh.m4{t k:Int}(hk:f4 l t k):j3 l t=k:=by unfold j3;rw[I.tj hk _ (b7 _),aj hk.dL.2]
theorem gh.same{on':Int->Bool}{Ia:Int->Int}{op':Int->cL}{nZ:Int->Option fF}{time':Int}(ht:time<=time')
  (h:∀t:Int,0<=t->t<n->on' t=on t/\Ia t=pc t/\op' t=op t/\nZ t=yes t):gh l ord n time' on' Ia op' nZ where
 c:=fun k a b=>by
  have:=I.c k a b;exact⟨this.t,this.op,⟨this.start.1,by have:=this.start.2;omega⟩,this.o6.imp id fun q=>⟨q.1,by omega⟩,this.fin.imp id fun q=>⟨q.1,q.2.1,by omega⟩,this.len⟩
 before:=I.before
 cnt:=fun t a b=>by rw[(h t a b).2.1];exact I.cnt t a b
 l_:=fun t a b e=>by rw[(h t a b).2.2.1];exact I.l_ t a b (by rw[<-(h t a b).1];exact e)
 off:=fun t a b e=>I.off t a b (by rw[<-(h t a b).1];exact e)
 o6:=fun t k a b hk=>by rw[(h t a b).2.2.2];exact I.o6 t k a b hk
 f6:=I.f6
 nodup:=I.nodup
 sort:=I.sort
 all:=I.all
theorem gh.beg{u:Int}(u0:0<=u)(u1:u<n)(hoff:on u=false)(hop:cH (op u)=true)(hy:yes u=none){on':Int->Bool}(pK:on' u=true)(wQ:∀t:Int,0<=t->t≠u->on' t=on t)(ht:0<=time) :
  gh (l++[(u,op u,time+1,-1,-1,(0,[],()),())]) ord n (time+1) on' pc op yes:=by
 have hlen:(l++[((u,op u,time+1,-1,-1,(0,[],()),()):d8)]).length=l.length+1:=by simp
 have hg:∀k:Int,0<=k->k<l.length->au (l++[(u,op u,time+1,-1,-1,(0,[],()),())]) k=au l k:=fun k a b=>by rw[Gc a,aj b]
 have hn:au (l++[(u,op u,time+1,-1,-1,(0,[],()),())]) l.length=(u,op u,time+1,-1,-1,(0,[],()),()):=by rw[Gc (by omega),af (by omega),aj rfl]
 have hold:∀t k,f4 (l++[(u,op u,time+1,-1,-1,(0,[],()),())]) t k->(k<l.length/\f4 l t k)\/(k=l.length/\t=u):=by
  intro t k hk;have hk2:=hk.dL;rw[hlen]at hk2;by_cases h:k<l.length
  .have h1:=hk.t;have h2:=hk.fin
   rw[hg k hk2.1 h]at h1 h2;exact .inl ⟨h,⟨hk2.1,h⟩,h1,h2⟩
  .have e:k=l.length:=by omega
   have h1:=hk.t;rw[e,hn]at h1;exact .inr ⟨e,h1.symm⟩
 refine⟨?_,?_,?_,?_,?_,?_,?_,I.nodup,?_,?_⟩
 .intro k a b;rw[hlen]at b;by_cases h:k<l.length
  .rw[hg k a h];have:=I.c k a h;exact⟨this.t,this.op,⟨this.start.1,by have:=this.start.2;omega⟩,this.o6.imp id fun q=>⟨q.1,by omega⟩,this.fin.imp id fun q=>⟨q.1,q.2.1,by omega⟩,this.len⟩
  .rw[show k=(l.length:Int) by omega,hn];exact⟨⟨u0,u1⟩,hop,⟨by dsimp only;omega,by dsimp only;omega⟩,.inl rfl,.inl rfl,by simp⟩
 .intro j k a b d e;rw[hlen]at d;have hj:=hg j a (by omega);by_cases h:k<l.length
  .have hk:=hg k (by omega) h;rw[hj,hk]at e;rw[hj,hk];exact I.before j k a b h e
  .have ek:k=(l.length:Int):=by omega
   rw[ek,hn,hj]at e;rw[ek,hn,hj];dsimp only at e⊢;have h1:=I.off u u0 u1 hoff j a (by omega) e;have h2:=(I.c j a (by omega)).fin;exact⟨by omega,by omega⟩
 .intro t a b;rw[O2,af (fun q=>by have:=q.2;dsimp only at this;omega),nS];exact I.cnt t a b
 .intro t a b e;by_cases h:t=u
  .subst h;exact⟨l.length,⟨⟨by omega,by omega⟩,by rw[hn],by rw[hn]⟩,by rw[hn]⟩
  .rw[wQ t a h]at e;obtain⟨k,hk,h2⟩:=I.l_ t a b e;exact⟨k,⟨⟨hk.dL.1,by have:=hk.dL.2;omega⟩,by rw[hg k hk.dL.1 hk.dL.2];exact hk.t,by rw[hg k hk.dL.1 hk.dL.2];exact hk.fin⟩,by rw[hg k hk.dL.1 hk.dL.2];exact h2⟩
 .intro t a b e k k0 k1 hk;have hne:t≠u:=fun q=>by rw[q,pK]at e;exact absurd e (by simp)
  rw[hlen]at k1;by_cases h:k<l.length
  .rw[hg k k0 h] at *;exact I.off t a b (by rw[<-wQ t a hne];exact e) k k0 h hk
  .rw[show k=(l.length:Int) by omega,hn]at hk;exact absurd hk.symm hne
 .intro t k a b hk;rcases hold t k hk with⟨h,h2⟩ | ⟨rfl,rfl⟩
  .rw[hg k hk.dL.1 h];exact I.o6 t k a b h2
  .rw[hn,hy];exact⟨fun _=>rfl,fun r q=>(by cases q)⟩
 .intro k hk;have:=I.f6 k hk;rw[hg k this.1 this.2.1];exact⟨this.1,by omega,this.2.2⟩
 .exact I.sort.imp_of_mem fun {a b} ha hb hab=>by
   have h1:=I.f6 a ha;have h2:=I.f6 b hb
   rw[hg a h1.1 h1.2.1,hg b h2.1 h2.2.1];exact hab
 .intro k a b e;rw[hlen]at b;by_cases h:k<l.length
  .rw[hg k a h]at e;exact I.all k a h e
  .rw[show k=(l.length:Int) by omega,hn]at e;dsimp only at e;omega
theorem gh.so{u k:Int}(u0:0<=u)(u1:u<n)(hk:f4 l u k)(hy:yes u=none){r:fF}(hr:r.2.1.length<=4){nZ:Int->Option fF}(h1:nZ u=some r)(h2:∀t:Int,0<=t->t≠u->nZ t=yes t) :
  gh (l.set k.toNat ((au l k).1,(au l k).2.1,(au l k).2.2.1,time,(au l k).2.2.2.2.1,r,())) (ord++[k]) n time on pc op nZ:=by
 have k0:=hk.dL.1;have k1:=hk.dL.2;have zQ:(au l k).2.2.2.1 = -1:=(I.o6 u k u0 u1 hk).1 hy;have oI:=hk.fin;have hc:=I.c k k0 k1;have hst:=hc.start;have hg:∀j:Int,0<=j->au (l.set k.toNat ((au l k).1,(au l k).2.1,(au l k).2.2.1,time,(au l k).2.2.2.2.1,r,())) j=if j=k then ((au l k).1,(au l k).2.1,(au l k).2.2.1,time,(au l k).2.2.2.2.1,r,()) else au l j:=fun j hj=>CU hk.dL hj
 have g1:∀j:Int,0<=j->(au (l.set k.toNat ((au l k).1,(au l k).2.1,(au l k).2.2.1,time,(au l k).2.2.2.2.1,r,())) j).1=(au l j).1:=fun j hj=>by rw[hg j hj];split<;>simp_all
 have g2:∀j:Int,0<=j->(au (l.set k.toNat ((au l k).1,(au l k).2.1,(au l k).2.2.1,time,(au l k).2.2.2.2.1,r,())) j).2.1=(au l j).2.1:=fun j hj=>by rw[hg j hj];split<;>simp_all
 have g3:∀j:Int,0<=j->(au (l.set k.toNat ((au l k).1,(au l k).2.1,(au l k).2.2.1,time,(au l k).2.2.2.2.1,r,())) j).2.2.1=(au l j).2.2.1:=fun j hj=>by rw[hg j hj];split<;>simp_all
 have g5:∀j:Int,0<=j->(au (l.set k.toNat ((au l k).1,(au l k).2.1,(au l k).2.2.1,time,(au l k).2.2.2.2.1,r,())) j).2.2.2.2.1=(au l j).2.2.2.2.1:=fun j hj=>by rw[hg j hj];split<;>simp_all
 have gk:=(hg k k0).trans (aj rfl);have go:∀j:Int,0<=j->j≠k->au (l.set k.toNat ((au l k).1,(au l k).2.1,(au l k).2.2.1,time,(au l k).2.2.2.2.1,r,())) j=au l j:=fun j hj ot=>(hg j hj).trans (af ot);have hkn:k∉ord:=fun q=>by have:=(I.f6 k q).2.2;omega
 have sY:∀t j,f4 (l.set k.toNat ((au l k).1,(au l k).2.1,(au l k).2.2.1,time,(au l k).2.2.2.2.1,r,())) t j↔f4 l t j:=by
  intro t j;constructor
  .intro h;have hj:=h.dL.1;exact⟨by simpa using h.dL,by rw[<-g1 j hj];exact h.t,by rw[<-g5 j hj];exact h.fin⟩
  .intro h;have hj:=h.dL.1;exact⟨by simpa using h.dL,by rw[g1 j hj];exact h.t,by rw[g5 j hj];exact h.fin⟩
 refine⟨?_,?_,?_,?_,?_,?_,?_,?_,?_,?_⟩
 .intro j a b;rw[ck]at b;by_cases h:j=k
  .rw[h,gk];exact⟨hc.t,hc.op,hc.start,.inr ⟨hst.2,vA _⟩,.inl oI,hr⟩
  .rw[go j a h];exact I.c j a b
 .intro i j a b d e;rw[ck]at d;rw[g5 i a,g3 j (by omega)];exact I.before i j a b d (by rw[<-g1 i a,<-g1 j (by omega)];exact e)
 .intro t a b;have:=O3 l ((au l k).1,(au l k).2.1,(au l k).2.2.1,time,(au l k).2.2.2.2.1,r,()) t k.toNat (by omega)
  have e:l[k.toNat]'(by omega)=au l k:=by unfold au;rw[qv]
  rw[e]at this;dsimp only at this;rw[<-I.cnt t a b];omega
 .intro t a b e;obtain⟨j,hj,h3⟩:=I.l_ t a b e;exact⟨j,(sY t j).2 hj,by rw[g2 j hj.dL.1];exact h3⟩
 .intro t a b e j j0 j1 hj;rw[ck]at j1;rw[g5 j j0];exact I.off t a b e j j0 j1 (by rw[<-g1 j j0];exact hj)
 .intro t j a b hj;have hj':=(sY t j).1 hj;by_cases h:t=u
  .subst h;have e:=I.uniq hj' hk;subst e;rw[gk,h1];refine⟨fun q=>(by cases q),fun r' q=>?_⟩;cases q;exact⟨by dsimp only;omega,rfl⟩
  .have hne:j≠k:=fun q=>h (by rw[<-hj'.t,q,hk.t]);rw[go j hj'.dL.1 hne,h2 t a h];exact I.o6 t j a b hj'
 .intro j hj;rw[ck];rcases bL.1 hj with h | h
  .have hj':=I.f6 j h;rw[go j hj'.1 (fun q=>hkn (q ▸ h))];exact hj'
  .rw[er]at h;subst h;rw[gk];exact⟨k0,k1,by dsimp only;omega⟩
 .rw[GW];exact⟨I.nodup,by simp,fun a ha b hb=>by rw[er]at hb;rw[hb];exact fun q=>hkn (q ▸ ha)⟩
 .rw[xB];refine⟨I.sort.imp_of_mem fun {a b} ha hb hab=>?_,by simp,fun a ha b hb=>?_⟩
  .rw[go a (I.f6 a ha).1 (fun q=>hkn (q ▸ ha)),go b (I.f6 b hb).1 (fun q=>hkn (q ▸ hb))];exact hab
  .rw[er]at hb;subst hb;have vq:=I.f6 a ha;rw[go a vq.1 (fun q=>hkn (q ▸ ha)),gk];have:=(I.c a vq.1 vq.2.1).o6;dsimp only;omega
 .intro j a b e;rw[ck]at b;by_cases h:j=k
  .rw[h];exact List.mem_append_right _ bO
  .rw[go j a h]at e;exact En _ (I.all j a b e)
theorem gh.fin{u k:Int}(u0:0<=u)(u1:u<n)(hk:f4 l u k){r:fF}(hy:yes u=some r){on':Int->Bool}{Ia:Int->Int}{nZ:Int->Option fF}(pK:on' u=false)(wQ:∀t:Int,0<=t->t≠u->on' t=on t)
  (Cm:Ia u=pc u+1) (VK:∀t:Int,0<=t->t≠u->Ia t=pc t) {op':Int->cL} (Du:∀t:Int,0<=t->t≠u->op' t=op t) (h2:∀t:Int,0<=t->t≠u->nZ t=yes t) :
  gh (l.set k.toNat ((au l k).1,(au l k).2.1,(au l k).2.2.1,(au l k).2.2.2.1,time,r,())) ord n time on' Ia op' nZ:=by
 have k0:=hk.dL.1;have k1:=hk.dL.2;obtain⟨zQ,hres⟩:=(I.o6 u k u0 u1 hk).2 r hy;have oI:=hk.fin;have hc:=I.c k k0 k1;have hst:=hc.start;have ji:=hc.o6;have hg:∀j:Int,0<=j->au (l.set k.toNat ((au l k).1,(au l k).2.1,(au l k).2.2.1,(au l k).2.2.2.1,time,r,())) j=if j=k then ((au l k).1,(au l k).2.1,(au l k).2.2.1,(au l k).2.2.2.1,time,r,()) else au l j:=fun j hj=>CU hk.dL hj
 have g1:∀j:Int,0<=j->(au (l.set k.toNat ((au l k).1,(au l k).2.1,(au l k).2.2.1,(au l k).2.2.2.1,time,r,())) j).1=(au l j).1:=fun j hj=>by rw[hg j hj];split<;>simp_all
 have g2:∀j:Int,0<=j->(au (l.set k.toNat ((au l k).1,(au l k).2.1,(au l k).2.2.1,(au l k).2.2.2.1,time,r,())) j).2.1=(au l j).2.1:=fun j hj=>by rw[hg j hj];split<;>simp_all
 have g3:∀j:Int,0<=j->(au (l.set k.toNat ((au l k).1,(au l k).2.1,(au l k).2.2.1,(au l k).2.2.2.1,time,r,())) j).2.2.1=(au l j).2.2.1:=fun j hj=>by rw[hg j hj];split<;>simp_all
 have g4:∀j:Int,0<=j->(au (l.set k.toNat ((au l k).1,(au l k).2.1,(au l k).2.2.1,(au l k).2.2.2.1,time,r,())) j).2.2.2.1=(au l j).2.2.2.1:=fun j hj=>by rw[hg j hj];split<;>simp_all
 have gk:=(hg k k0).trans (aj rfl);have go:∀j:Int,0<=j->j≠k->au (l.set k.toNat ((au l k).1,(au l k).2.1,(au l k).2.2.1,(au l k).2.2.2.1,time,r,())) j=au l j:=fun j hj ot=>(hg j hj).trans (af ot);have sY:∀t j,f4 (l.set k.toNat ((au l k).1,(au l k).2.1,(au l k).2.2.1,(au l k).2.2.2.1,time,r,())) t j->j≠k/\f4 l t j:=by
  intro t j h;have hj:=h.dL.1;have hne:j≠k:=fun q=>by have:=h.fin;rw[q,gk]at this;dsimp only at this;omega
  have h1:=h.t;have h3:=h.fin
  rw[go j hj hne]at h1 h3;exact⟨hne,by simpa using h.dL,h1,h3⟩
 refine⟨?_,?_,?_,?_,?_,?_,?_,I.nodup,?_,?_⟩
 .intro j a b;rw[ck]at b;by_cases h:j=k
  .rw[h,gk];have:=hc.len;rw[hres]at this;exact⟨hc.t,hc.op,hc.start,hc.o6,.inr ⟨zQ,by dsimp only;omega,vA _⟩,this⟩
  .rw[go j a h];exact I.c j a b
 .intro i j a b d e;rw[ck]at d;rw[g1 i a,g1 j (by omega)]at e;rw[g3 j (by omega)];by_cases h:i=k
  .subst h;have:=(I.before i j a b d e).1;omega
  .rw[go i a h];exact I.before i j a b d e
 .intro t a b;have:=O3 l ((au l k).1,(au l k).2.1,(au l k).2.2.1,(au l k).2.2.2.1,time,r,()) t k.toNat (by omega)
  have e:l[k.toNat]'(by omega)=au l k:=by unfold au;rw[qv]
  have hA:¬ ((au l k).1=t/\0<=(au l k).2.2.2.2.1):=fun q=>by have:=q.2;omega
  rw[e,af hA]at this;dsimp only at this;have yZ:0<=time:=by omega
  have hcn:=I.cnt t a b;by_cases h:t=u
  .subst h;rw[aj ⟨hk.t,yZ⟩]at this;rw[Cm];omega
  .have hB:¬ ((au l k).1=t/\0<=time):=fun q=>h (q.1.symm.trans hk.t);rw[af hB]at this;rw[VK t a h];omega
 .intro t a b e;have hne:t≠u:=fun q=>by rw[q,pK]at e;exact absurd e (by simp)
  rw[wQ t a hne]at e;obtain⟨j,hj,h3⟩:=I.l_ t a b e;have ot:j≠k:=fun q=>hne (by rw[<-hj.t,q,hk.t]);exact⟨j,⟨by simpa using hj.dL,by rw[go j hj.dL.1 ot];exact hj.t,by rw[go j hj.dL.1 ot];exact hj.fin⟩,by rw[go j hj.dL.1 ot,Du t a hne];exact h3⟩
 .intro t a b e j j0 j1 hj;rw[ck]at j1;rw[g1 j j0]at hj;by_cases h:j=k
  .rw[h,gk];dsimp only;omega
  .rw[go j j0 h];by_cases hu:t=u
   .subst hu;have hn:=hc;rcases(I.c j j0 j1).fin with q | q
    .exact absurd (I.uniq ⟨⟨j0,j1⟩,hj,q⟩ hk) h
    .omega
   .exact I.off t a b (by rw[<-wQ t a hu];exact e) j j0 j1 hj
 .intro t j a b hj;obtain⟨hne,hj'⟩:=sY t j hj;have hu:t≠u:=fun q=>hne (I.uniq (q ▸ hj') hk);rw[go j hj'.dL.1 hne,h2 t a hu];exact I.o6 t j a b hj'
 .intro j hj;rw[ck];have hj':=I.f6 j hj;rw[g4 j hj'.1];exact hj'
 .exact I.sort.imp_of_mem fun {a b} ha hb hab=>by
   rw[g4 a (I.f6 a ha).1,g4 b (I.f6 b hb).1];exact hab
 .intro j a b e;rw[ck]at b;rw[g4 j a]at e;exact I.all j a b e
end
inductive iq (l:List d8):qp->List Int->qp->Prop
 | nil (r:qp):iq l r [] r
 | snoc {r s:qp} {ks:List Int} {k:Int}:iq l r ks s->aM s->Out s (au l k).2.1 (au l k).2.2.2.2.2.1.1 (au l k).2.2.2.2.2.1.2.1->iq l r (ks++[k]) (gX s (au l k).2.1 (au l k).2.2.2.2.2.1.1)
theorem iq.same{l l':List d8}{r:qp}{ks:List Int}{s:qp}(h:iq l r ks s):(∀k∈ks,(au l' k).2.1=(au l k).2.1/\(au l' k).2.2.2.2.2.1=(au l k).2.2.2.2.2.1)->iq l' r ks s:=by
 induction h with
 | nil=>intro _;exact .nil _
 | @snoc s ks k _ hs ho ih=>intro hl;have h1:=hl k (by simp);have:=iq.snoc (l:=l') (k:=k) (ih fun j hj=>hl j (En _ hj)) hs (by rw[h1.1,h1.2];exact ho);rw[h1.1,h1.2]at this;exact this
structure j5 (m:bw) (n:Nat) (x:eP) (t:Int):Prop where
 ops:x.1.length<=4/\∀o∈x.1,cH o=true
 pc:0<=x.2.1/\x.2.1<=x.1.length
 on:x.2.2.1=true->x.2.1<x.1.length
 off:x.2.2.1=false->x.2.2.2.1=[]/\x.2.2.2.2.1=[]
 got:r6 x.2.2.2.1
 st:x.2.2.2.2.1=[]\/(∃h,x.2.2.2.2.1=[h])\/∃h h',x.2.2.2.2.1=[h,h']/\h.1=t
 jI:∀h∈x.2.2.2.2.1,cv m n h
 own:∀h∈x.2.2.2.2.1,h.1=t->h.2.1=(aE m t).1
 along:x.2.2.1=true->pY x.2.2.2.1 (aY x)
 read:x.2.2.1=true->b9 x t=false->∃q B,path (dy x.2.2.2.1) (prog (aY x))=gW x.2.2.2.1++q::B
 plan:b9 x t=true->path (dy x.2.2.2.1) (prog (aY x))=gW x.2.2.2.1/\mc (aY x) x.2.2.2.1=none/\(aE m t).2.2.1=dw (aY x) x.2.2.2.1/\(aE m t).2.2.2.1=eC (aY x) x.2.2.2.1
def ga(m:aN)(t:Int):Prop:=b9 (aG m t) t=true
def mJ(m:aN)(t:Int):Option fF:=if b9 (aG m t) t=true/\(aE m.1 t).2.1=2 then some (aE m.1 t).2.2.2.1 else none
structure Inv (m:aN):Prop where
 n:1<=m.2.1.length/\m.2.1.length<=3
 time:0<=m.2.2.1
 mem:fz m.1 m.2.1.length m.2.2.1 (ga m)
 th:∀t:Int,0<=t->t<m.2.1.length->j5 m.1 m.2.1.length (aG m t) t
 call:gh m.2.2.2.1 m.2.2.2.2.1 m.2.1.length m.2.2.1 (fun t=>(aG m t).2.2.1) (fun t=>(aG m t).2.1) (fun t=>aY (aG m t)) (mJ m)
 rep:∃R,aM R/\iq m.2.2.2.1 m.2.2.2.2.2.1 m.2.2.2.2.1 R/\∀p:Int,0<=p->p<20->m7 m.1 p=cj R p
 first:aM m.2.2.2.2.2.1
theorem Gf(x:eP)(t:Int):b9 x t=true↔∃h r,x.2.2.2.2.1=h::r/\h.1=t:=by
 unfold b9;cases x.2.2.2.2.1 with
 | nil=>simp
 | cons h r=>simp
theorem Rz{x:eP}{t:Int}(h:x.2.2.2.2.1=[]):b9 x t=false:=by unfold b9;rw[h]
theorem j5.DG{m:bw}{n:Nat}{x:eP}{t:Int}(h:j5 m n x t)(hs:x.2.2.2.2.1≠[]):x.2.2.1=true:=by
 cases ho:x.2.2.1 with
 | true=>rfl
 | false=>exact absurd (h.off ho).2 hs
theorem j5.xe{m:bw}{n:Nat}{x:eP}{t:Int}(h:j5 m n x t)(hs:b9 x t=true):x.2.2.1=true:=by refine h.DG fun e=>?_;rw[Rz e]at hs;cases hs
theorem j5.op{m:bw}{n:Nat}{x:eP}{t:Int}(h:j5 m n x t)(ho:x.2.2.1=true):cH (aY x)=true:=by have h1:=h.on ho;have h2:=h.pc;unfold aY;rw[qv (show x.2.1.toNat<x.1.length by omega)];exact h.ops.2 _ (ef _)
theorem j5.move{m m':bw}{n:Nat}{x:eP}{t:Int}(h:j5 m n x t)(hh:∀k,cv m n k->cv m' n k)(h1:(aE m' t).1=(aE m t).1)(h2:(aE m' t).2.2=(aE m t).2.2):j5 m' n x t where
 ops:=h.ops
 pc:=h.pc
 on:=h.on
 off:=h.off
 got:=h.got
 st:=h.st
 jI:=fun k hk=>hh k (h.jI k hk)
 own:=fun k e1 e2=>by rw[h1];exact h.own k e1 e2
 along:=h.along
 read:=h.read
 plan:=fun e=>by rw[h2];exact h.plan e
theorem S_{x:eP}(h:x.2.2.2.2.1≠[]):bD x∈x.2.2.2.2.1:=by have hl:0<x.2.2.2.2.1.length:=qS.2 h;unfold bD;rw[qv (by omega)];exact ef _
theorem As{m:bw}{n:Nat}{x:eP}{t:Int}(h:j5 m n x t)(hs:x.2.2.2.2.1≠[]) :
  (x.2.2.2.2.1=[bD x])\/∃h0,x.2.2.2.2.1=[h0,bD x]/\h0.1=t:=by
 rcases h.st with e | ⟨k,e⟩ | ⟨k,k',e,h1⟩
 .exact absurd e hs
 .left;have:bD x=k:=by unfold bD;rw[e];rfl
  rw[this,e]
 .right;have:bD x=k':=by unfold bD;rw[e];rfl
  rw[this];exact⟨k,e,h1⟩
theorem q7o{m:bw}{n:Nat}{x:eP}{t:Int}(h:j5 m n x t)(hs:x.2.2.2.2.1≠[])(ht:(bD x).1=t):b9 x t=true/\(bD x).2.1=(aE m t).1:=by
 refine⟨?_,h.own _ (S_ hs) ht⟩;rcases As h hs with e | ⟨h0,e,a⟩
 .exact(Gf x t).2 ⟨_,_,e,ht⟩
 .exact(Gf x t).2 ⟨_,_,e,a⟩
def iM(x:eP)(s:List kU):eP:=(x.1,x.2.1,x.2.2.1,x.2.2.2.1,s,())
theorem j5.iM{m:bw}{n:Nat}{x:eP}{t:Int}(h:j5 m n x t)(ho:x.2.2.1=true){s:List kU}(hst:s=[]\/(∃h,s=[h])\/∃h h',s=[h,h']/\h.1=t)(hh:∀k∈s,cv m n k)(hw:∀k∈s,k.1=t->k.2.1=(aE m t).1)
  (hb:b9 (iM x s) t=b9 x t):j5 m n (iM x s) t where
 ops:=h.ops
 pc:=h.pc
 on:=h.on
 off:=fun e=>by rw[show(Go.G.iM x s).2.2.1=x.2.2.1 from rfl,ho]at e;cases e
 got:=h.got
 st:=hst
 jI:=hh
 own:=hw
 along:=h.along
 read:=fun e1 e2=>h.read e1 (by rw[<-hb];exact e2)
 plan:=fun e=>h.plan (by rw[<-hb];exact e)
theorem AT{m:aN}(I:Inv m){t:Int}(t0:0<=t)(t1:t<m.2.1.length){a:bw}{x:eP}(hM:fz a m.2.1.length m.2.2.1 (ga (cO (dj m a) t x)))
  (yW:∀u:Int,0<=u->u<m.2.1.length->u≠t->(aE a u).1=(aE m.1 u).1/\(aE a u).2.2=(aE m.1 u).2.2) (hh:∀k,cv m.1 m.2.1.length k->cv a m.2.1.length k)
  (hx:j5 a m.2.1.length x t) (hsame:x.1=(aG m t).1/\x.2.1=(aG m t).2.1/\x.2.2.1=(aG m t).2.2.1)
  (hyes:∀u:Int,0<=u->u<m.2.1.length->mJ (cO (dj m a) t x) u=mJ m u) (hv:∀p:Int,0<=p->p<20->m7 a p=m7 m.1 p):Inv (cO (dj m a) t x):=by
 have hl:(cO (dj m a) t x).2.1.length=m.2.1.length:=sn _ _ _;have hJ:∀u:Int,0<=u->aG (cO (dj m a) t x) u=if u=t then x else aG m u:=fun u hu=>tw (m:=dj m a) ⟨t0,t1⟩ hu
 refine⟨by rw[hl];exact I.n,I.time,by rw[hl];exact hM,?_,?_,?_,I.first⟩
 .intro u u0 u1;rw[hl]at u1⊢;rw[hJ u u0];by_cases h:u=t
  .subst h;rw[aj rfl];exact hx
  .rw[af h];exact(I.th u u0 u1).move hh (yW u u0 u1 h).1 (yW u u0 u1 h).2
 .rw[hl];refine I.call.same (vA _) fun u u0 u1=>?_;have e:(aG (cO (dj m a) t x) u).1=(aG m u).1/\(aG (cO (dj m a) t x) u).2.1=(aG m u).2.1/\(aG (cO (dj m a) t x) u).2.2.1=(aG m u).2.2.1:=by
   rw[hJ u u0];by_cases h:u=t
   .subst h;rw[aj rfl];exact hsame
   .rw[af h];exact⟨rfl,rfl,rfl⟩
  exact⟨e.2.2,e.2.1,by unfold aY;rw[e.1,e.2.1],hyes u u0 u1⟩
 .obtain⟨R,h1,h2,h3⟩:=I.rep;exact⟨R,h1,h2,fun p p0 p1=>(hv p p0 p1).trans (h3 p p0 p1)⟩
theorem KY{m:aN}{a:bw}{t u:Int}{x:eP}(t0:0<=t)(t1:t<m.2.1.length)(u0:0<=u)(hb:b9 x t=b9 (aG m t) t)(h1:(aE a u).2.1=2↔(aE m.1 u).2.1=2)(h2:(aE a u).2.2=(aE m.1 u).2.2) :
  mJ (cO (dj m a) t x) u=mJ m u:=by
 have e:b9 (aG (cO (dj m a) t x) u) u=b9 (aG m u) u:=by
  rw[tw (m:=dj m a) ⟨t0,t1⟩ u0];by_cases h:u=t
  .subst h;rw[aj rfl];exact hb
  .rw[af h];rfl
 unfold mJ;rw[e,show(cO (dj m a) t x).1=a from rfl,h2];by_cases h:b9 (aG m u) u=true/\(aE m.1 u).2.1=2
 .rw[aj h,aj ⟨h.1,h1.2 h.2⟩]
 .rw[af h,af fun q=>h ⟨q.1,h1.1 q.2⟩]
theorem Qr{m:aN}{a:bw}{t:Int}{x:eP}(t0:0<=t)(t1:t<m.2.1.length)(hb:b9 x t=b9 (aG m t) t)(u:Int)(u0:0<=u):ga m u↔ga (cO (dj m a) t x) u:=by
 unfold ga;rw[tw (m:=dj m a) ⟨t0,t1⟩ u0];by_cases h:u=t
 .subst h;rw[aj rfl,hb]
 .rw[af h];exact kD
theorem zn{m:aN}(I:Inv m){t:Int}(t0:0<=t)(t1:t<m.2.1.length)(ho:(aG m t).2.2.1=true){a:bw}{s:List kU}(hM:fz a m.2.1.length m.2.2.1 (ga m))
  (yW:∀u:Int,0<=u->u<m.2.1.length->(aE a u).1=(aE m.1 u).1/\(aE a u).2.2=(aE m.1 u).2.2/\((aE a u).2.1=2↔(aE m.1 u).2.1=2)) (hh:∀k,cv m.1 m.2.1.length k->cv a m.2.1.length k)
  (hst:s=[]\/(∃h,s=[h])\/∃h h',s=[h,h']/\h.1=t) (hhs:∀k∈s,cv a m.2.1.length k) (hw:∀k∈s,k.1=t->k.2.1=(aE m.1 t).1) (hb:b9 (iM (aG m t) s) t=b9 (aG m t) t)
  (hv:∀p:Int,0<=p->p<20->m7 a p=m7 m.1 p):Inv (cO (dj m a) t (iM (aG m t) s)):=by
 refine AT I t0 t1 ?_ (fun u u0 u1 _=>⟨(yW u u0 u1).1,(yW u u0 u1).2.1⟩) hh ?_ ⟨rfl,rfl,rfl⟩ (fun u u0 u1=>KY t0 t1 u0 hb (yW u u0 u1).2.2 (yW u u0 u1).2.1) hv
 .exact hM.kz fun u u0 _=>Qr t0 t1 hb u u0
 .have:=(I.th t t0 t1).move hh (yW t t0 t1).1 (yW t t0 t1).2.1;exact this.iM ho hst hhs (fun k hk e=>by rw[(yW t t0 t1).1];exact hw k hk e) hb
theorem LL{m a:bw}{n:Nat}{x:eP}{t:Int}(h:j5 m n x t)(hs:x.2.2.2.2.1≠[])(hh:∀k,cv m n k->cv a n k){h':kU}(he:cv a n h')(hw:h'.1=t->h'.2.1=(aE m t).1)(hown:b9 x t=false->h'.1≠t)
  (JM:∀k,x.2.2.2.2.1=[k]->k.1=t->h'.1=t) :
  (x.2.2.2.2.1.set (x.2.2.2.2.1.length-1) h'=[]\/(∃k,x.2.2.2.2.1.set (x.2.2.2.2.1.length-1) h'=[k])\/∃k k',x.2.2.2.2.1.set (x.2.2.2.2.1.length-1) h'=[k,k']/\k.1=t)/\
  (∀k∈x.2.2.2.2.1.set (x.2.2.2.2.1.length-1) h',cv a n k)/\(∀k∈x.2.2.2.2.1.set (x.2.2.2.2.1.length-1) h',k.1=t->k.2.1=(aE m t).1)/\
  b9 (iM x (x.2.2.2.2.1.set (x.2.2.2.2.1.length-1) h')) t=b9 x t:=by
 rcases As h hs with e | ⟨h0,e,e0⟩
 .have e2:x.2.2.2.2.1.set (x.2.2.2.2.1.length-1) h'=[h']:=by rw[e];rfl
  rw[e2];refine⟨.inr (.inl ⟨_,rfl⟩),fun k hk=>?_,fun k hk=>?_,?_⟩
  .rw[er]at hk;rw[hk];exact he
  .rw[er]at hk;rw[hk];exact hw
  .have b1:b9 x t=decide ((bD x).1=t):=by unfold b9;rw[e]
   have b2:b9 (iM x [h']) t=decide (h'.1=t):=rfl;rw[b2];by_cases q:(bD x).1=t
   .rw[b1,cT q,cT (JM _ e q)]
   .rw[b1,bJ q]at hown⊢;exact bJ (hown rfl)
 .have e2:x.2.2.2.2.1.set (x.2.2.2.2.1.length-1) h'=[h0,h']:=by rw[e];rfl
  rw[e2];have hm0:h0∈x.2.2.2.2.1:=by rw[e];exact bO
  refine⟨.inr (.inr ⟨_,_,rfl,e0⟩),fun k hk=>?_,fun k hk=>?_,?_⟩
  .rcases bk.1 hk with rfl | hk
   .exact hh _ (h.jI _ hm0)
   .rw[er]at hk;rw[hk];exact he
  .rcases bk.1 hk with rfl | hk
   .exact h.own _ hm0
   .rw[er]at hk;rw[hk];exact hw
  .have b2:b9 (iM x [h0,h']) t=decide (h0.1=t):=rfl;have b1:b9 x t=decide (h0.1=t):=by unfold b9;rw[e]
   rw[b1,b2]
theorem LZ{m:bw}{n:Nat}{x:eP}{t:Int}(h:j5 m n x t)(hs:x.2.2.2.2.1≠[])(hne:(bD x).1≠t) :
  (x.2.2.2.2.1.take (x.2.2.2.2.1.length-1)=[]\/(∃k,x.2.2.2.2.1.take (x.2.2.2.2.1.length-1)=[k])\/∃k k',x.2.2.2.2.1.take (x.2.2.2.2.1.length-1)=[k,k']/\k.1=t)/\
  (∀k∈x.2.2.2.2.1.take (x.2.2.2.2.1.length-1),cv m n k)/\(∀k∈x.2.2.2.2.1.take (x.2.2.2.2.1.length-1),k.1=t->k.2.1=(aE m t).1)/\
  b9 (iM x (x.2.2.2.2.1.take (x.2.2.2.2.1.length-1))) t=b9 x t:=by
 have hsub:∀k∈x.2.2.2.2.1.take (x.2.2.2.2.1.length-1),k∈x.2.2.2.2.1:=fun k hk=>List.mem_of_mem_take hk;refine⟨?_,fun k hk=>h.jI k (hsub k hk),fun k hk=>h.own k (hsub k hk),?_⟩
 .rcases As h hs with e | ⟨h0,e,e0⟩
  .left;rw[e];rfl
  .right;left;exact⟨h0,by rw[e];rfl⟩
 .rcases As h hs with e | ⟨h0,e,e0⟩
  .have b1:b9 x t=decide ((bD x).1=t):=by unfold b9;rw[e]
   have e2:x.2.2.2.2.1.take (x.2.2.2.2.1.length-1)=[]:=by rw[e];rfl
   rw[e2,b1,bJ hne];rfl
  .have e2:x.2.2.2.2.1.take (x.2.2.2.2.1.length-1)=[h0]:=by rw[e];rfl
   have b1:b9 x t=decide (h0.1=t):=by unfold b9;rw[e]
   rw[e2,b1];rfl
theorem K9{m:bw}{n:Nat}{x:eP}{t:Int}(h:j5 m n x t){h':kU}(he:cv m n h')(hne:h'.1≠t)(hs:x.2.2.2.2.1=[]\/∃k,x.2.2.2.2.1=[k]/\k.1=t) :
  (x.2.2.2.2.1++[h']=[]\/(∃k,x.2.2.2.2.1++[h']=[k])\/∃k k',x.2.2.2.2.1++[h']=[k,k']/\k.1=t)/\
  (∀k∈x.2.2.2.2.1++[h'],cv m n k)/\(∀k∈x.2.2.2.2.1++[h'],k.1=t->k.2.1=(aE m t).1)/\b9 (iM x (x.2.2.2.2.1++[h'])) t=b9 x t:=by
 refine⟨?_,fun k hk=>?_,fun k hk JC=>?_,?_⟩
 .rcases hs with e | ⟨k,e,ek⟩
  .right;left;exact⟨h',by rw[e];rfl⟩
  .right;right;exact⟨k,h',by rw[e];rfl,ek⟩
 .rcases bL.1 hk with q | q
  .exact h.jI k q
  .rw[er]at q;rw[q];exact he
 .rcases bL.1 hk with q | q
  .exact h.own k q JC
  .rw[er]at q;rw[q]at JC;exact absurd JC hne
 .rcases hs with e | ⟨k,e,ek⟩
  .rw[e,gJ,Rz e];show decide (h'.1=t)=false;exact bJ hne
  .have b1:b9 x t=decide (k.1=t):=by unfold b9;rw[e]
   rw[b1,e];rfl
theorem ahc{m:aN}{t:Int}(t0:0<=t)(t1:t<m.2.1.length):cO m t (aG m t)=m:=by
 have h:m.2.1.set t.toNat (aG m t)=m.2.1:=by unfold aG;rw[qv (show t.toNat<m.2.1.length by omega)];exact Ac _
 unfold cO;rw[h]
theorem Zh{m:bw}{n:Nat}{x:eP}{t:Int}(h:j5 m n x t)(hs:x.2.2.2.2.1≠[]):IE x (bD x)=x:=by
 have hl:0<x.2.2.2.2.1.length:=qS.2 hs;have e:x.2.2.2.2.1.set (x.2.2.2.2.1.length-1) (bD x)=x.2.2.2.2.1:=by unfold bD;rw[qv (by omega)];exact Ac _
 unfold IE;rw[e]
theorem Pp{m:bw}{n:Nat}{time:Int}{own lq:Int->Prop}(I:fz m n time own){t:Int}(t0:0<=t)(t1:t<n)(hs:(aE m t).2.1≠1)(hc:∀i:Int,0<=i->i<(aE m t).2.2.1.length->wd m (qi (aE m t).2.2.1 i).1≠fU t (aE m t).1)
  (ho:∀u:Int,0<=u->u≠t->(own u↔lq u)) (hn:¬ lq t):fz m n time lq where
 len:=I.len
 f5:=I.f5
 dI:=I.dI
 word:=fun p p0 p1=>by
  rcases I.word p p0 p1 with h | ⟨u,a,b,c,d,i,i0,i1,e⟩
  .exact .inl h
  .have hu:u≠t:=by rintro rfl;exact hc i i0 i1 (by rw[e];exact d)
   exact .inr ⟨u,a,b,(ho u a hu).1 c,d,i,i0,i1,e⟩
 l_:=fun u a b c=>by
  have hu:u≠t:=fun e=>hs (by rw[<-e];exact c);exact(ho u a hu).1 (I.l_ u a b c)
 lu:=fun u a b c=>by
  have hu:u≠t:=fun e=>hn (by rw[<-e];exact c);exact I.lu u a b ((ho u a hu).2 c)
 pre:=I.pre
theorem j5.rest{m:bw}{n:Nat}{x:eP}{t:Int}(h:j5 m n x t):∀b:Bool,(b=true->x.2.1<x.1.length)->j5 m n (x.1,x.2.1,b,[],[],()) t:=fun b hb=>
  { ops:=h.ops,pc:=h.pc,on:=hb,off:=fun _=>⟨rfl,rfl⟩,got:=fun g hg=>by simp at hg,st:=.inl rfl,jI:=fun k hk=>by simp at hk,own:=fun k hk=>by simp at hk,
    along:=fun _=>Pc _,
    read:=fun e _=>by
      show ∃q B,path (dy []) (prog (aY (x.1,x.2.1,b,[],[],())))=[]++q::B;have ho:cH (aY x)=true:=by have h1:=hb e;have h2:=h.pc;unfold aY;rw[qv (show x.2.1.toNat<x.1.length by omega)];exact h.ops.2 _ (ef _)
      have hk:=rz ho;have e2:aY (x.1,x.2.1,b,[],[],())=aY x:=rfl;rw[e2];generalize aY x=o at *;simp only[gJ];unfold prog;by_cases k1:o.1=1
      . rw[aj k1];unfold su;simp only[path];exact⟨_,_,rfl⟩
      rw[af k1];by_cases k2:o.1=2
      . rw[aj k2];unfold sv;simp only[path];exact⟨_,_,rfl⟩
      rw[af k2];by_cases k3:o.1=3
      . rw[aj k3];unfold uQ;simp only[path];exact⟨_,_,rfl⟩
      rw[af k3];by_cases k4:o.1=4
      . rw[aj k4];simp only[path];exact⟨_,_,rfl⟩
      rw[af k4];by_cases k5:o.1=5
      . rw[aj k5];simp only[path];exact⟨_,_,rfl⟩
      rw[af k5];by_cases k6:o.1=6
      . rw[aj k6];simp only[path];exact⟨_,_,rfl⟩
      rw[af k6];by_cases k7:o.1=7
      . rw[aj k7];unfold BH;simp only[path];exact⟨_,_,rfl⟩
      rw[af k7];by_cases k8:o.1=8
      . rw[aj k8];simp only[path];exact⟨_,_,rfl⟩
      rw[af k8];by_cases k9:o.1=9
      . rw[aj k9];unfold ym;simp only[path];exact⟨_,_,rfl⟩
      rw[af k9];by_cases gO:o.1=10
      . rw[aj gO];unfold vN;simp only[path];exact⟨_,_,rfl⟩
      . omega
    plan:=fun e=>by simp[b9]at e }
theorem Ls{m:aN}{t:Int}(t0:0<=t)(t1:t<m.2.1.length){k:Int}{r:fF}{yes:Int->Option fF}
    (hn:1<=m.2.1.length/\m.2.1.length<=3) (ht:0<=m.2.2.1) (hM:fz m.1 m.2.1.length m.2.2.1 (ga (ez m t r))) (ue:∀u:Int,0<=u->u<m.2.1.length->j5 m.1 m.2.1.length (aG m u) u) (pK:(aG m t).2.2.1=true)
    (hC:gh m.2.2.2.1 m.2.2.2.2.1 m.2.1.length m.2.2.1 (fun t=>(aG m t).2.2.1) (fun t=>(aG m t).2.1) (fun t=>aY (aG m t)) yes) (hk:f4 m.2.2.2.1 t k) (hy:yes t=some r) (hyo:∀u:Int,0<=u->u≠t->yes u=mJ m u)
    (hR:∃R,aM R/\iq m.2.2.2.1 m.2.2.2.2.2.1 m.2.2.2.2.1 R/\∀p:Int,0<=p->p<20->m7 m.1 p=cj R p) (hf:aM m.2.2.2.2.2.1):Inv (ez m t r):=by
  have e:ez m t r=(m.1,m.2.1.set t.toNat ((aG m t).1,(aG m t).2.1+1,false,[],[],()),m.2.2.1,m.2.2.2.1.set k.toNat ((au m.2.2.2.1 k).1,(au m.2.2.2.1 k).2.1,(au m.2.2.2.1 k).2.2.1,(au m.2.2.2.1 k).2.2.2.1,m.2.2.1,r,()),m.2.2.2.2):=by unfold ez kY;rw[hC.m4 hk,af (by have:=hk.dL;omega)];rfl
  have hl:(ez m t r).2.1.length=m.2.1.length:=by rw[e];simp
  have hJ:∀u:Int,0<=u->aG (ez m t r) u=if u=t then ((aG m t).1,(aG m t).2.1+1,false,[],[],()) else aG m u:=fun u u0=>by
    have:=tw (m:=kY m t r) (u:=t) (t:=u) (x:=((aG m t).1,(aG m t).2.1+1,false,[],[],()));unfold ez;have h2:(kY m t r).2.1=m.2.1:=by unfold kY;split<;>rfl
    rw[this (by rw[h2];exact⟨t0,t1⟩) u0,Rk h2 u]
  have hx:=ue t t0 t1;have Cm:=hx.pc;have hlt:=hx.on pK;refine⟨by rw[hl];exact hn,by rw[e];exact ht,by rw[hl];rw[show(ez m t r).2.2.1=m.2.2.1 by rw[e],show(ez m t r).1=m.1 by rw[e]];exact hM,?_,?_,?_,by rw[e];exact hf⟩
  . intro u u0 u1
    rw[hl]at u1⊢;rw[hJ u u0,show(ez m t r).1=m.1 by rw[e]];by_cases h:u=t
    . subst h
      rw[aj rfl]
      exact { ops:=hx.ops,pc:=⟨by dsimp only;omega,by dsimp only;omega⟩,on:=fun q=>(by cases q),off:=fun _=>⟨rfl,rfl⟩,got:=fun g hg=>by simp at hg,st:=.inl rfl,jI:=fun k hk=>by simp at hk,own:=fun k hk=>by simp at hk,
              along:=fun _=>Pc _,read:=fun q _=>(by cases q),plan:=fun q=>by simp[b9]at q }
    . rw[af h];exact ue u u0 u1
  . have e1:(ez m t r).2.2.2.1=m.2.2.2.1.set k.toNat ((au m.2.2.2.1 k).1,(au m.2.2.2.1 k).2.1,(au m.2.2.2.1 k).2.2.1,(au m.2.2.2.1 k).2.2.2.1,m.2.2.1,r,()):=by rw[e]
    have e2:(ez m t r).2.2.2.2.1=m.2.2.2.2.1:=by rw[e]
    have e3:(ez m t r).2.2.1=m.2.2.1:=by rw[e]
    rw[hl,e1,e2,e3];have hT:=(hJ t t0).trans (aj rfl);have hO:∀u:Int,0<=u->u≠t->aG (ez m t r) u=aG m u:=fun u u0 h=>(hJ u u0).trans (af h);refine hC.fin t0 t1 hk hy (by rw[hT]) (fun u u0 h=>by rw[hO u u0 h]) (by rw[hT]) (fun u u0 h=>by rw[hO u u0 h]) (fun u u0 h=>by rw[hO u u0 h]) (fun u u0 h=>?_);rw[hyo u u0 h];unfold mJ;rw[hO u u0 h,show(ez m t r).1=m.1 by rw[e]]
  . obtain⟨R,h1,h2,h3⟩:=hR
    refine⟨R,h1,?_,by rw[show(ez m t r).1=m.1 by rw[e]];exact h3⟩;rw[e];refine h2.same fun j hj=>?_;have hj':=hC.f6 j hj;dsimp only;rw[CU hk.dL hj'.1];by_cases h:j=k
    . rw[aj h,h];exact⟨rfl,((hC.o6 t k t0 t1 hk).2 r hy).2.symm⟩
    . rw[af h];exact⟨rfl,rfl⟩
theorem aiX{m:aN}(I:Inv m){u:Int}(u0:0<=u)(u1:u<m.2.1.length)(hs:(aE m.1 u).2.1=1)(hall:∀i:Int,0<=i->i<(aE m.1 u).2.2.1.length->wd m.1 (qi (aE m.1 u).2.2.1 i).1=fU u (aE m.1 u).1)
  {R:qp} (hv:∀p:Int,0<=p->p<20->m7 m.1 p=cj R p):(aG m u).2.2.2.1=fo R (aY (aG m u)):=by
 have hown:ga m u:=I.mem.l_ u u0 u1 hs;have T:=I.th u u0 u1;have pK:=T.xe hown;have ho:=T.op pK;obtain⟨hp,dJ,hl,hr⟩:=T.plan hown;refine aaF (R4 ho T.got (T.along pK)).1 hp fun g hg=>?_;obtain⟨e,he,e1,e2⟩:=(FQ ho T.got (T.along pK) hp dJ).1 g hg;have JV:=Ln ho T.got (T.along pK) hp dJ e he;rw[<-hl]at he;obtain⟨i,i0,i1,hi⟩:=P7 he;have hm:=hall i i0 i1;rw[hi]at hm;have:=Hs u0 hm;rw[af (by omega),<-hi,AA (I.mem.dI u u0 u1).B8 i0 i1,hi]at this;rw[<-e2,<-this,hv _ JV.1.1 JV.1.2,e1]
theorem ajn{m:aN}(I:Inv m){u:Int}(u0:0<=u)(u1:u<m.2.1.length)(hs:(aE m.1 u).2.1=1)(hall:∀i:Int,0<=i->i<(aE m.1 u).2.2.1.length->wd m.1 (qi (aE m.1 u).2.2.1 i).1=fU u (aE m.1 u).1) :
  Inv (jP (dj m (cr m.1 u ((aE m.1 u).1,2,(aE m.1 u).2.2))) u (aE m.1 u).2.2.2.1):=by
 have hown:ga m u:=I.mem.l_ u u0 u1 hs;have T:=I.th u u0 u1;have pK:=T.xe hown;have ho:=T.op pK;obtain⟨hp,dJ,hl,hr⟩:=T.plan hown;obtain⟨k,hk,t9⟩:=I.call.l_ u u0 u1 pK;obtain⟨R,hR,uc,hv⟩:=I.rep;have wI:=aiX I u0 u1 hs hall hv;rw[wI]at dJ hl hr;have wZ:=aab hR ho dJ;have hout:=abb hR ho dJ;obtain⟨hM,hH,hval⟩:=O0 I.mem u0 u1 (c:=2) hs (.inl rfl);have nA:=I.mem.f5;have hd:∀v:Int,0<=v->aE (cr m.1 u ((aE m.1 u).1,2,(aE m.1 u).2.2)) v=if v=u then ((aE m.1 u).1,2,(aE m.1 u).2.2) else aE m.1 v:=fun v v0=>IC (by omega) v0
 have hC:j3 m.2.2.2.1 u=k:=I.call.m4 hk;have e:jP (dj m (cr m.1 u ((aE m.1 u).1,2,(aE m.1 u).2.2))) u (aE m.1 u).2.2.2.1=(cr m.1 u ((aE m.1 u).1,2,(aE m.1 u).2.2),m.2.1,m.2.2.1,
   m.2.2.2.1.set k.toNat ((au m.2.2.2.1 k).1,(au m.2.2.2.1 k).2.1,(au m.2.2.2.1 k).2.2.1,m.2.2.1,(au m.2.2.2.1 k).2.2.2.2.1,(aE m.1 u).2.2.2.1,()),m.2.2.2.2.1++[k],m.2.2.2.2.2):=by
  unfold jP;rw[show(dj m (cr m.1 u ((aE m.1 u).1,2,(aE m.1 u).2.2))).2.2.2.1=m.2.2.2.1 from rfl,hC,af (by have:=hk.dL;omega)];rfl
 rw[e];have hyes:∀v:Int,0<=v->mJ (cr m.1 u ((aE m.1 u).1,2,(aE m.1 u).2.2),m.2.1,m.2.2.1,
   m.2.2.2.1.set k.toNat ((au m.2.2.2.1 k).1,(au m.2.2.2.1 k).2.1,(au m.2.2.2.1 k).2.2.1,m.2.2.1,(au m.2.2.2.1 k).2.2.2.2.1,(aE m.1 u).2.2.2.1,()),m.2.2.2.2.1++[k],m.2.2.2.2.2) v=if v=u then some (aE m.1 u).2.2.2.1 else mJ m v:=by
  intro v v0;by_cases h:v=u
  .subst h;rw[aj rfl];show(if b9 (aG m v) v=true/\(aE (cr m.1 v ((aE m.1 v).1,2,(aE m.1 v).2.2)) v).2.1=2 then some (aE (cr m.1 v ((aE m.1 v).1,2,(aE m.1 v).2.2)) v).2.2.2.1 else none)=_;rw[hd v v0,aj rfl,aj ⟨hown,rfl⟩]
  .rw[af h];show(if b9 (aG m v) v=true/\(aE (cr m.1 u ((aE m.1 u).1,2,(aE m.1 u).2.2)) v).2.1=2 then some (aE (cr m.1 u ((aE m.1 u).1,2,(aE m.1 u).2.2)) v).2.2.2.1 else none)=_;rw[hd v v0,af h];rfl
 refine⟨I.n,I.time,hM,?_,?_,?_,I.first⟩
 .intro v v0 v1;refine(I.th v v0 v1).move hH ?_ ?_
  .show(aE (cr m.1 u _) v).1=_;rw[hd v v0];split
   .next h=>rw[h]
   .rfl
  .show(aE (cr m.1 u _) v).2.2=_;rw[hd v v0];split
   .next h=>rw[h]
   .rfl
 .exact I.call.so u0 u1 hk (by unfold mJ;rw[af (by omega)]) (by rw[hr];exact La _ _) ((hyes u u0).trans (aj rfl)) (fun v v0 h=>(hyes v v0).trans (af h))
 .have gk:au (m.2.2.2.1.set k.toNat ((au m.2.2.2.1 k).1,(au m.2.2.2.1 k).2.1,(au m.2.2.2.1 k).2.2.1,m.2.2.1,(au m.2.2.2.1 k).2.2.2.2.1,(aE m.1 u).2.2.2.1,())) k=((au m.2.2.2.1 k).1,(au m.2.2.2.1 k).2.1,(au m.2.2.2.1 k).2.2.1,m.2.2.1,(au m.2.2.2.1 k).2.2.2.2.1,(aE m.1 u).2.2.2.1,()):=by rw[CU hk.dL hk.dL.1,aj rfl]
  have hkn:k∉m.2.2.2.2.1:=fun q=>by
   have h1:=(I.call.f6 k q).2.2;have h2:=(I.call.o6 u k u0 u1 hk).1 (by unfold mJ;rw[af (by omega)]);omega
  have wU:iq (m.2.2.2.1.set k.toNat ((au m.2.2.2.1 k).1,(au m.2.2.2.1 k).2.1,(au m.2.2.2.1 k).2.2.1,m.2.2.1,(au m.2.2.2.1 k).2.2.2.2.1,(aE m.1 u).2.2.2.1,())) m.2.2.2.2.2.1 m.2.2.2.2.1 R:=by refine uc.same fun j hj=>?_;rw[CU hk.dL (I.call.f6 j hj).1,af (fun q:j=k=>hkn (by rw[<-q];exact hj))];exact⟨rfl,rfl⟩
  have J0:=iq.snoc (k:=k) wU hR (by rw[gk];dsimp only;rw[t9,hr];exact hout);rw[gk]at J0;dsimp only at J0;refine⟨gX R (au m.2.2.2.1 k).2.1 (aE m.1 u).2.2.2.1.1,by rw[t9,hr];exact wZ.2,J0,fun p p0 p1=>?_⟩;show m7 (cr m.1 u _) p=_;rw[hval p p0 p1,t9,hr];by_cases hw:wd m.1 p=fU u (aE m.1 u).1
  .rw[aj ⟨rfl,hw⟩];rcases I.mem.word p p0 p1 with h | ⟨v,v0,v1,_,d,i,i0,i1,ei⟩
   .exact absurd hw (IP h.1 u0)
   .obtain rfl:v=u:=(Rr (d.symm.trans hw)).1;rw[<-ei,AA (I.mem.dI v v0 v1).B8 i0 i1];have hm:=SZ i0 i1;rw[hl]at hm⊢;exact(wZ.1.old _ hm).2.2.2
  .rw[af (fun q=>hw q.2),hv p p0 p1];have:=wZ.1.rest p.toNat (by omega) (fun e he=>by
    rw[<-hl]at he;obtain⟨i,i0,i1,hi⟩:=P7 he;intro q;have:=hall i i0 i1;rw[hi,q,show((p.toNat:Nat):Int)=p by omega]at this;exact hw this)
   rw[show((p.toNat:Nat):Int)=p by omega]at this;exact this
theorem abv{m:aN}(I:Inv m){t:Int}(t0:0<=t)(t1:t<m.2.1.length)(hs:(aG m t).2.2.2.2.1≠[]):Inv (sk m t):=by
 have T:=I.th t t0 t1;have ho:=T.DG hs;have H:=T.jI _ (S_ hs);have hw:=fun e=>T.own _ (S_ hs) e;have JN:b9 (aG m t) t=false->(bD (aG m t)).1≠t:=fun h e=>by rw[(q7o T hs e).1]at h;cases h
 have hsw:=Zh T hs;have wY:∀k,(aG m t).2.2.2.2.1=[k]->bD (aG m t)=k:=fun k e=>by unfold bD;rw[e];rfl
 generalize hh:bD (aG m t)=h at *;have u0:=H.t.1;have u1:=H.t.2;by_cases hd:(aE m.1 h.1).1≠h.2.1
 .have e:q7 m.1 h=(m.1,h,dH,2,()):=by unfold q7;rw[aj hd]
  have hne:h.1≠t:=fun q=>hd (by rw[q];exact(hw q).symm);unfold sk;rw[hh,e];dsimp only;rw[af (by decide),aj rfl,aj hne];obtain⟨p1,p2,p3,p4⟩:=LZ T hs (by rw[hh];exact hne);exact zn I t0 t1 ho I.mem (fun u _ _=>⟨rfl,rfl,kD⟩) (fun k hk=>hk) p1 p2 p3 p4 (fun p _ _=>rfl)
 have hd':h.2.1=(aE m.1 h.1).1:=by omega
 obtain⟨c1,c2,c3,c4⟩:=H.cur hd';have Sh:∀{a:bw}(hk:∀k,cv m.1 m.2.1.length k->cv a m.2.1.length k) {h':kU} (he:cv a m.2.1.length h') (e1:h'.1=h.1) (e2:h'.2.1=h.2.1),_:=fun {a} hk {h'} he e1 e2=>
  LL T hs hk he (fun q=>by rw[e2];exact hw (e1 ▸ q)) (fun q=>by rw[e1];exact JN q) (fun k ek q=>by rw[e1,wY k ek];exact q)
 by_cases hst:(aE m.1 h.1).2.1=1
 .by_cases eg:((aE m.1 h.1).2.2.1.length:Int)<=h.2.2.1
  .have e:q7 m.1 h=(cr m.1 h.1 ((aE m.1 h.1).1,2,(aE m.1 h.1).2.2),h,dH,3,()):=by unfold q7;rw[af hd,aj hst,aj eg]
   unfold sk;rw[hh,e];dsimp only;rw[af (by decide),af (by decide),aj rfl,hsw];have hall:=(c3 hst).2;have:=ajn I u0 u1 hst (fun i i0 i1=>by rw[<-hd'];exact hall i i0 (by omega));have e2:(jP (dj m (cr m.1 h.1 ((aE m.1 h.1).1,2,(aE m.1 h.1).2.2))) h.1 (aE m.1 h.1).2.2.2.1).2.1=m.2.1:=by unfold jP;split<;>rfl
   have e3:=Rk e2 t;rw[<-e3,ahc t0 (by rw[e2];exact t1)];exact this
  have hlt:h.2.2.1<(aE m.1 h.1).2.2.1.length:=by omega
  have i0:=H.v_.1;have oH:=I.mem.iF u0 u1 i0 hlt;by_cases hmk:wd m.1 (qi (aE m.1 h.1).2.2.1 h.2.2.1).1=fU h.1 h.2.1
  .have e:q7 m.1 h=(m.1,(h.1,h.2.1,h.2.2.1+1,h.2.2.2),dH,0,()):=by unfold q7;rw[af hd,aj hst,af eg,aj hmk]
   have hn:cv m.1 m.2.1.length (h.1,h.2.1,h.2.2.1+1,h.2.2.2):=by
    refine⟨H.t,H.seq,⟨by dsimp only;omega,by dsimp only;have:=(I.mem.dI _ u0 u1).len;omega⟩,H.fin,fun _=>⟨by dsimp only;omega,c2,fun _=>⟨(c3 hst).1,fun i a b=>?_⟩,fun q=>absurd hst q⟩⟩;dsimp only at b⊢;by_cases hi:i=h.2.2.1
    .rw[hi];exact hmk
    .exact(c3 hst).2 i a (by omega)
   unfold sk;rw[hh,e];dsimp only;rw[af (by decide),af (by decide),af (by decide)];obtain⟨p1,p2,p3,p4⟩:=Sh (fun k hk=>hk) hn rfl rfl;exact zn I t0 t1 ho I.mem (fun u _ _=>⟨rfl,rfl,kD⟩) (fun k hk=>hk) p1 p2 p3 p4 (fun p _ _=>rfl)
  by_cases H6:(wd m.1 (qi (aE m.1 h.1).2.2.1 h.2.2.1).1).2.1≠0
  .have e:q7 m.1 h=(m.1,h,((wd m.1 (qi (aE m.1 h.1).2.2.1 h.2.2.1).1).2.1-1,(wd m.1 (qi (aE m.1 h.1).2.2.1 h.2.2.1).1).2.2.1,0,0,()),1,()):=by unfold q7;rw[af hd,aj hst,af eg,af hmk,aj H6]
   rcases I.mem.word _ oH.1.1 oH.1.2 with hq | ⟨v,v0,v1,vo,vm,j,j0,j1,je⟩
   .exact absurd hq.1 H6
   have e2:((wd m.1 (qi (aE m.1 h.1).2.2.1 h.2.2.1).1).2.1-1,(wd m.1 (qi (aE m.1 h.1).2.2.1 h.2.2.1).1).2.2.1,(0:Int),(0:Int),())=(v,(aE m.1 v).1,0,0,()):=by rw[vm];simp only[fU];rw[show v+1-1=v by omega]
   rw[e2]at e;have hvu:v≠h.1:=fun q=>hmk (by rw[vm,q,hd']);have hn:cv m.1 m.2.1.length (v,(aE m.1 v).1,0,0,()):=by
    refine⟨⟨v0,v1⟩,⟨I.mem.lu v v0 v1 vo,vA _⟩,⟨by dsimp only;omega,by dsimp only;omega⟩,⟨by dsimp only;omega,by dsimp only;omega⟩,fun _=>⟨by dsimp only;omega,by dsimp only;omega,fun _=>⟨rfl,fun i a b=>?_⟩,fun _ i a b=>?_⟩⟩
    .dsimp only at b;omega
    .dsimp only at b;omega
   unfold sk;rw[hh,e];dsimp only;rw[aj rfl];by_cases hc:h.1=t/\(aG m t).2.2.2.2.1.length=1
   .rw[aj hc];have hk:∃k,(aG m t).2.2.2.2.1=[k]:=by
     match hq:(aG m t).2.2.2.2.1,hc.2 with
     | [k],_=>exact⟨k,rfl⟩
    obtain⟨k,hk⟩:=hk;have JC:k.1=t:=by rw[<-wY k hk];exact hc.1
    obtain⟨p1,p2,p3,p4⟩:=K9 T hn (by show v≠t;rw[<-hc.1];exact hvu) (.inr ⟨k,hk,JC⟩);exact zn I t0 t1 ho I.mem (fun u _ _=>⟨rfl,rfl,kD⟩) (fun k hk=>hk) p1 p2 p3 p4 (fun p _ _=>rfl)
   .rw[af hc];obtain⟨p1,p2,p3,p4⟩:=LL T hs (fun k hk=>hk) hn (fun q=>by dsimp only at q⊢;rw[q]) (fun q=>by
      intro q2;dsimp only at q2;rw[q2]at vo;unfold ga at vo;rw[q]at vo;cases vo) (fun k ek q=>by
      exfalso;exact hc ⟨by rw[wY k ek];exact q,by rw[ek];rfl⟩)
    exact zn I t0 t1 ho I.mem (fun u _ _=>⟨rfl,rfl,kD⟩) (fun k hk=>hk) p1 p2 p3 p4 (fun p _ _=>rfl)
  have hw0:(wd m.1 (qi (aE m.1 h.1).2.2.1 h.2.2.1).1).2.1=0:=by omega
  by_cases hold:(wd m.1 (qi (aE m.1 h.1).2.2.1 h.2.2.1).1).1=(qi (aE m.1 h.1).2.2.1 h.2.2.1).2.1
  .have e:q7 m.1 h=(setW m.1 (qi (aE m.1 h.1).2.2.1 h.2.2.1).1 (fU h.1 h.2.1),(h.1,h.2.1,h.2.2.1+1,h.2.2.2),dH,0,()):=by unfold q7;rw[af hd,aj hst,af eg,af hmk,af H6,aj hold]
   obtain⟨hM,hV,hH⟩:=Ii I.mem u0 u1 hst i0 hlt hw0 hold (fun j a b=>by rw[<-hd'];exact(c3 hst).2 j a b);rw[<-hd']at hM hV hH;have hn:cv (setW m.1 (qi (aE m.1 h.1).2.2.1 h.2.2.1).1 (fU h.1 h.2.1)) m.2.1.length (h.1,h.2.1,h.2.2.1+1,h.2.2.2):=by
    refine⟨H.t,H.seq,⟨by dsimp only;omega,by dsimp only;have:=(I.mem.dI _ u0 u1).len;omega⟩,H.fin,fun _=>⟨by dsimp only;exact hlt,c2,fun _=>⟨(c3 hst).1,fun i a b=>?_⟩,fun q=>absurd hst q⟩⟩;dsimp only at b⊢;have hlen:=I.mem.len;rw[show aE (setW m.1 (qi (aE m.1 h.1).2.2.1 h.2.2.1).1 (fU h.1 h.2.1)) h.1=aE m.1 h.1 from rfl];have zM:=I.mem.iF u0 u1 a (by omega:i<_);rw[SS (by omega) zM.1.1];by_cases hi:(qi (aE m.1 h.1).2.2.1 i).1=(qi (aE m.1 h.1).2.2.1 h.2.2.1).1
    .rw[aj hi]
    .rw[af hi];exact(c3 hst).2 i a (by
      by_cases q:i=h.2.2.1
      .exact absurd (by rw[q]) hi
      .omega)
   unfold sk;rw[hh,e];dsimp only;rw[af (by decide),af (by decide),af (by decide)];obtain⟨p1,p2,p3,p4⟩:=Sh hH hn rfl rfl;exact zn I t0 t1 ho hM (fun u _ _=>⟨rfl,rfl,kD⟩) hH p1 p2 p3 p4 hV
  .have e:q7 m.1 h=(cr m.1 h.1 ((aE m.1 h.1).1,3,(aE m.1 h.1).2.2),h,dH,0,()):=by unfold q7;rw[af hd,aj hst,af eg,af hmk,af H6,af hold]
   obtain⟨hM,hH,hV⟩:=O0 I.mem u0 u1 (c:=3) hst (.inr rfl);have nA:=I.mem.f5;have kT:∀v:Int,0<=v->aE (cr m.1 h.1 ((aE m.1 h.1).1,3,(aE m.1 h.1).2.2)) v=if v=h.1 then ((aE m.1 h.1).1,3,(aE m.1 h.1).2.2) else aE m.1 v:=fun v v0=>IC (by omega) v0
   unfold sk;rw[hh,e];dsimp only;rw[af (by decide),af (by decide),af (by decide)];obtain⟨p1,p2,p3,p4⟩:=Sh hH (hH _ H) rfl rfl;refine zn I t0 t1 ho hM (fun v v0 _=>?_) hH p1 p2 p3 p4 (fun p a b=>by rw[hV p a b,af (by omega)]);rw[kT v v0];by_cases q:v=h.1
   .rw[aj q,q];exact⟨rfl,rfl,by dsimp only;omega⟩
   .rw[af q];exact⟨rfl,rfl,kD⟩
 .by_cases oI:((aE m.1 h.1).2.2.1.length:Int)<=h.2.2.2.1
  .have e:q7 m.1 h=(m.1,h,dH,2,()):=by unfold q7;rw[af hd,af hst,aj oI]
   unfold sk;rw[hh,e];dsimp only;rw[af (by decide),aj rfl];by_cases hne:h.1≠t
   .rw[aj hne];obtain⟨p1,p2,p3,p4⟩:=LZ T hs (by rw[hh];exact hne);exact zn I t0 t1 ho I.mem (fun u _ _=>⟨rfl,rfl,kD⟩) (fun k hk=>hk) p1 p2 p3 p4 (fun p _ _=>rfl)
   rw[af hne];have Vk:h.1=t:=by omega
   have hown:=(q7o T hs (by rw[hh];exact Vk)).1;have SJ:=hw Vk;rw[Vk]at hst c4 oI;rw[SJ]at c4;have wA:∀i:Int,0<=i->i<(aE m.1 t).2.2.1.length->wd m.1 (qi (aE m.1 t).2.2.1 i).1≠fU t (aE m.1 t).1:=fun i a b=>c4 hst i a (by omega);have ud:=I.mem.lu t t0 t1 hown;have aky:=(I.mem.dI t t0 t1).st.2 ud;by_cases hy:(aE m.1 t).2.1=2
   .rw[aj hy];obtain⟨k,hk,_⟩:=I.call.l_ t t0 t1 ho;have hJ:∀u:Int,0<=u->aG (ez (dj m m.1) t (aE m.1 t).2.2.2.1) u=if u=t then ((aG m t).1,(aG m t).2.1+1,false,[],[],()) else aG m u:=fun u u0=>by
     unfold ez;have h2:(kY (dj m m.1) t (aE m.1 t).2.2.2.1).2.1=m.2.1:=by unfold kY;split<;>rfl
     rw[tw (by rw[h2];exact⟨t0,t1⟩) u0,Rk h2 u];rfl
    refine Ls (m:=m) t0 t1 I.n I.time ?_ I.th ho I.call hk (by unfold mJ;rw[aj ⟨hown,hy⟩]) (fun _ _ _=>rfl) I.rep I.first;refine Pp I.mem t0 t1 hst wA (fun u u0 hu=>?_) ?_
    .unfold ga;rw[show ez m t (aE m.1 t).2.2.2.1=ez (dj m m.1) t (aE m.1 t).2.2.2.1 from rfl,hJ u u0,af hu]
    .unfold ga;rw[show ez m t (aE m.1 t).2.2.2.1=ez (dj m m.1) t (aE m.1 t).2.2.2.1 from rfl,hJ t t0,aj rfl];simp[b9]
   .rw[af hy];refine AT I t0 t1 ?_ (fun u _ _ _=>⟨rfl,rfl⟩) (fun k hk=>hk) ?_ ⟨rfl,rfl,rfl⟩ (fun u u0 u1=>?_) (fun p _ _=>rfl)
    .refine Pp I.mem t0 t1 hst wA (fun u u0 hu=>?_) ?_
     .unfold ga;rw[tw (m:=dj m m.1) ⟨t0,t1⟩ u0,af hu];exact kD
     .unfold ga;rw[tw (m:=dj m m.1) ⟨t0,t1⟩ t0,aj rfl];simp[b9]
    .exact T.rest _ (fun _=>T.on ho)
    .unfold mJ;rw[tw (m:=dj m m.1) ⟨t0,t1⟩ u0];by_cases q:u=t
     .rw[aj q,q,af (by simp[b9]),af (fun z=>hy z.2)]
     .rw[af q];rfl
  .have hlt:h.2.2.2.1<(aE m.1 h.1).2.2.1.length:=by omega
   have i0:=H.fin.1;have oH:=I.mem.iF u0 u1 i0 hlt;by_cases hmk:wd m.1 (qi (aE m.1 h.1).2.2.1 h.2.2.2.1).1=fU h.1 h.2.1
   .have e:q7 m.1 h=(setW m.1 (qi (aE m.1 h.1).2.2.1 h.2.2.2.1).1 (if (aE m.1 h.1).2.1=2 then (qi (aE m.1 h.1).2.2.1 h.2.2.2.1).2.2.1 else (qi (aE m.1 h.1).2.2.1 h.2.2.2.1).2.1,0,0,()),(h.1,h.2.1,h.2.2.1,h.2.2.2.1+1,()),dH,0,()):=by unfold q7;rw[af hd,af hst,af oI,aj hmk]
    obtain⟨hM,hV,hH⟩:=ZK I.mem u0 u1 hst i0 hlt (by rw[<-hd'];exact hmk);have hn:cv (setW m.1 (qi (aE m.1 h.1).2.2.1 h.2.2.2.1).1 (if (aE m.1 h.1).2.1=2 then (qi (aE m.1 h.1).2.2.1 h.2.2.2.1).2.2.1 else (qi (aE m.1 h.1).2.2.1 h.2.2.2.1).2.1,0,0,())) m.2.1.length (h.1,h.2.1,h.2.2.1,h.2.2.2.1+1,()):=by
     refine⟨H.t,H.seq,H.v_,⟨by dsimp only;omega,by dsimp only;have:=(I.mem.dI _ u0 u1).len;omega⟩,fun _=>⟨c1,by dsimp only;exact hlt,fun q=>absurd q hst,fun _ i a b=>?_⟩⟩;dsimp only at b⊢;have hlen:=I.mem.len;rw[show ∀w,aE (setW m.1 (qi (aE m.1 h.1).2.2.1 h.2.2.2.1).1 w) h.1=aE m.1 h.1 from fun w=>rfl];have zM:=I.mem.iF u0 u1 a (by omega:i<_);rw[SS (by omega) zM.1.1];by_cases hi:(qi (aE m.1 h.1).2.2.1 i).1=(qi (aE m.1 h.1).2.2.1 h.2.2.2.1).1
     .rw[aj hi];exact IP rfl u0
     .rw[af hi];exact c4 hst i a (by
       by_cases q:i=h.2.2.2.1
       .exact absurd (by rw[q]) hi
       .omega)
    unfold sk;rw[hh,e];dsimp only;rw[af (by decide),af (by decide),af (by decide)];obtain⟨p1,p2,p3,p4⟩:=Sh hH hn rfl rfl;exact zn I t0 t1 ho hM (fun u _ _=>⟨rfl,rfl,kD⟩) hH p1 p2 p3 p4 hV
   .have e:q7 m.1 h=(m.1,(h.1,h.2.1,h.2.2.1,h.2.2.2.1+1,()),dH,0,()):=by unfold q7;rw[af hd,af hst,af oI,af hmk]
    have hn:cv m.1 m.2.1.length (h.1,h.2.1,h.2.2.1,h.2.2.2.1+1,()):=by
     refine⟨H.t,H.seq,H.v_,⟨by dsimp only;omega,by dsimp only;have:=(I.mem.dI _ u0 u1).len;omega⟩,fun _=>⟨c1,by dsimp only;exact hlt,fun q=>absurd q hst,fun _ i a b=>?_⟩⟩;dsimp only at b⊢;by_cases q:i=h.2.2.2.1
     .rw[q];exact hmk
     .exact c4 hst i a (by omega)
    unfold sk;rw[hh,e];dsimp only;rw[af (by decide),af (by decide),af (by decide)];obtain⟨p1,p2,p3,p4⟩:=Sh (fun k hk=>hk) hn rfl rfl;exact zn I t0 t1 ho I.mem (fun u _ _=>⟨rfl,rfl,kD⟩) (fun k hk=>hk) p1 p2 p3 p4 (fun p _ _=>rfl)
theorem FR{m:aN}(a:bw){t u:Int}{x:eP}(h:0<=t/\t<m.2.1.length)(u0:0<=u):aG (cO (dj m a) t x) u=if u=t then x else aG m u:=tw (m:=dj m a) h u0
theorem abp{got:dY}(h:r6 got){q v:Int}(hv:0<=v/\v<=6):r6 (got++[(q,v,())]):=by
 intro g hg;rcases bL.1 hg with k | k
 .exact h g k
 .rw[er]at k;rw[k];exact hv
theorem Qz{m:aN}(I:Inv m){t:Int}(t0:0<=t)(t1:t<m.2.1.length)(ho:(aG m t).2.2.1=true)(hs:(aG m t).2.2.2.2.1=[])(ud:(aE m.1 t).1+1<=m.2.2.1):Inv (Hw m t):=by
  have T:=I.th t t0 t1;have hop:=T.op ho;have kg:=Rz (t:=t) hs;have hno:¬ ga m t:=by unfold ga;rw[kg];simp
  obtain⟨q,B,hq⟩:=T.read ho kg;have sR:=T.along ho;obtain⟨JS,yY⟩:=R9 hop T.got sR;have vt:D7 (aG m t)=q/\(0<=q/\q<20)/\q∉gW (aG m t).2.2.2.1/\(aG m t).2.2.2.1.length<8:=by
    rcases yY with h | ⟨q',B',h,h2,h3,h4,h5⟩
    . rw[hq]at h
      have:=eM List.length h.1;simp at this
    . rw[hq]at h
      have:=QS h;simp only[eL]at this;obtain⟨rfl,_⟩:=this;exact⟨h2,h3,h4,h5⟩
  obtain⟨vt,yX,hqn,hlen⟩:=vt;obtain⟨R,hR,uc,hv⟩:=I.rep;unfold Hw;have Vj:lY m (aG m t)=(aG m t).2.2.2.1++[(q,(wd m.1 q).1,())]:=by unfold lY;rw[vt]
  rw[vt,Vj];by_cases hw:(wd m.1 q).2.1≠0
  . rw[aj hw]
    rcases I.mem.word q yX.1 yX.2 with h | ⟨v,v0,v1,vo,vm,j,j0,j1,je⟩
    . exact absurd h.1 hw
    have e2:((wd m.1 q).2.1-1,(wd m.1 q).2.2.1,(0:Int),(0:Int),())=(v,(aE m.1 v).1,0,0,()):=by rw[vm];simp only[fU];rw[show v+1-1=v by omega]
    rw[e2];have hn:cv m.1 m.2.1.length (v,(aE m.1 v).1,0,0,()):=by
      refine⟨⟨v0,v1⟩,⟨I.mem.lu v v0 v1 vo,vA _⟩,⟨by dsimp only;omega,by dsimp only;omega⟩,⟨by dsimp only;omega,by dsimp only;omega⟩,fun _=>⟨by dsimp only;omega,by dsimp only;omega,fun _=>⟨rfl,fun i a b=>?_⟩,fun _ i a b=>?_⟩⟩
      . dsimp only at b;omega
      . dsimp only at b;omega
    obtain⟨p1,p2,p3,p4⟩:=K9 T hn (fun e=>hno (by rw[<-show v=t from e];exact vo)) (.inl hs);exact zn I t0 t1 ho I.mem (fun u _ _=>⟨rfl,rfl,kD⟩) (fun k hk=>hk) p1 p2 p3 p4 (fun p _ _=>rfl)
  have hw0:(wd m.1 q).2.1=0:=by omega
  rw[af hw];have hval:(wd m.1 q).1=cj R q:=by rw[<-CJ hw0,hv q yX.1 yX.2]
  rw[hval];have hg':r6 ((aG m t).2.2.2.1++[(q,cj R q,())]):=abp T.got (Bu hR q yX);have tW:pY ((aG m t).2.2.2.1++[(q,cj R q,())]) (aY (aG m t)):=Z2 hop T.got sR hq hqn _;obtain⟨akw,JT⟩:=R9 hop hg' tW;by_cases hlt:¬ (run ((aG m t).2.2.2.1++[(q,cj R q,())]) (prog (aY (aG m t)))).2<0
  . have ua:g7 (aY (aG m t)) ((aG m t).2.2.2.1++[(q,cj R q,())])=(L3,false,()):=by unfold g7;rw[af (fun z=>hlt z.2)]
    rw[ua,aj rfl];have hb:b9 (vI (aG m t) ((aG m t).2.2.2.1++[(q,cj R q,())])) t=b9 (aG m t) t:=rfl;refine AT I t0 t1 (I.mem.kz fun u u0 _=>Qr (a:=m.1) t0 t1 hb u u0) (fun u _ _ _=>⟨rfl,rfl⟩) (fun k hk=>hk) ?_ ⟨rfl,rfl,rfl⟩ (fun u u0 _=>KY t0 t1 u0 hb kD rfl) (fun p _ _=>rfl)
    exact { ops:=T.ops,pc:=T.pc,on:=T.on,off:=fun e=>by rw[show(vI (aG m t) ((aG m t).2.2.2.1++[(q,cj R q,())])).2.2.1=(aG m t).2.2.1 from rfl,ho]at e;cases e
            got:=hg',st:=T.st,jI:=T.jI,own:=T.own,along:=fun _=>tW
            read:=fun _ _=>by
              rcases JT with h | ⟨q',B',h,_⟩
              . exact absurd h.2 (by omega)
              . exact⟨q',B',h⟩
            plan:=fun e=>by rw[hb,kg]at e;cases e }
  replace hlt:(run ((aG m t).2.2.2.1++[(q,cj R q,())]) (prog (aY (aG m t)))).2<0:=by omega
  have pG:path (dy ((aG m t).2.2.2.1++[(q,cj R q,())])) (prog (aY (aG m t)))=gW ((aG m t).2.2.2.1++[(q,cj R q,())]):=by
    rcases JT with h | ⟨q',B',h,h2,h3,_⟩
    . exact h.1
    . omega
  obtain⟨k,hk,t9⟩:=I.call.l_ t t0 t1 ho;have SM:mJ m t=none:=by unfold mJ;rw[af (fun z=>by rw[kg]at z;cases z.1)]
  cases dJ:mc (aY (aG m t)) ((aG m t).2.2.2.1++[(q,cj R q,())]) with
  | some y=>
    have ua:g7 (aY (aG m t)) ((aG m t).2.2.2.1++[(q,cj R q,())])=((true,(y.1,y.2,()),[],()),true,()):=by unfold g7;rw[aj ⟨hop,hlt⟩,dJ]
    rw[ua];dsimp only;rw[af (by simp),aj rfl];obtain⟨hout,UW,hyl⟩:=ajH hR hop pG dJ;have hC:j3 m.2.2.2.1 t=k:=I.call.m4 hk;have e:jP m t (y.1,y.2,())=(m.1,m.2.1,m.2.2.1,m.2.2.2.1.set k.toNat ((au m.2.2.2.1 k).1,(au m.2.2.2.1 k).2.1,(au m.2.2.2.1 k).2.2.1,m.2.2.1,(au m.2.2.2.1 k).2.2.2.2.1,(y.1,y.2,()),()),m.2.2.2.2.1++[k],m.2.2.2.2.2):=by unfold jP;rw[hC,af (by have:=hk.dL;omega)];rfl
    have SI:=I.call.so (r:=(y.1,y.2,())) t0 t1 hk SM hyl (nZ:=fun u=>if u=t then some (y.1,y.2,()) else mJ m u) (aj rfl) (fun u _ h=>af h);have hkn:k∉m.2.2.2.2.1:=fun z=>by
      have h1:=(I.call.f6 k z).2.2;have h2:=(I.call.o6 t k t0 t1 hk).1 SM;omega
    have gk:au (m.2.2.2.1.set k.toNat ((au m.2.2.2.1 k).1,(au m.2.2.2.1 k).2.1,(au m.2.2.2.1 k).2.2.1,m.2.2.1,(au m.2.2.2.1 k).2.2.2.2.1,(y.1,y.2,()),())) k=((au m.2.2.2.1 k).1,(au m.2.2.2.1 k).2.1,(au m.2.2.2.1 k).2.2.1,m.2.2.1,(au m.2.2.2.1 k).2.2.2.2.1,(y.1,y.2,()),()):=by rw[CU hk.dL hk.dL.1,aj rfl]
    have J0:iq (m.2.2.2.1.set k.toNat ((au m.2.2.2.1 k).1,(au m.2.2.2.1 k).2.1,(au m.2.2.2.1 k).2.2.1,m.2.2.1,(au m.2.2.2.1 k).2.2.2.2.1,(y.1,y.2,()),())) m.2.2.2.2.2.1 (m.2.2.2.2.1++[k]) R:=by
      have wU:iq (m.2.2.2.1.set k.toNat ((au m.2.2.2.1 k).1,(au m.2.2.2.1 k).2.1,(au m.2.2.2.1 k).2.2.1,m.2.2.1,(au m.2.2.2.1 k).2.2.2.2.1,(y.1,y.2,()),())) m.2.2.2.2.2.1 m.2.2.2.2.1 R:=by refine uc.same fun j hj=>?_;rw[CU hk.dL (I.call.f6 j hj).1,af (fun z:j=k=>hkn (by rw[<-z];exact hj))];exact⟨rfl,rfl⟩
      have h:=iq.snoc (k:=k) wU hR (by rw[gk];dsimp only;rw[t9];exact hout);rw[gk]at h;dsimp only at h;rw[show gX R (au m.2.2.2.1 k).2.1 y.1=R by rw[t9];exact UW]at h;exact h
    rw[e];have hJ:∀u:Int,0<=u->aG (ez (m.1,m.2.1,m.2.2.1,m.2.2.2.1.set k.toNat ((au m.2.2.2.1 k).1,(au m.2.2.2.1 k).2.1,(au m.2.2.2.1 k).2.2.1,m.2.2.1,(au m.2.2.2.1 k).2.2.2.2.1,(y.1,y.2,()),()),m.2.2.2.2.1++[k],m.2.2.2.2.2) t (y.1,y.2,())) u=if u=t then ((aG m t).1,(aG m t).2.1+1,false,[],[],()) else aG m u:=by
      intro u u0;unfold ez;have h2:(kY (m.1,m.2.1,m.2.2.1,m.2.2.2.1.set k.toNat ((au m.2.2.2.1 k).1,(au m.2.2.2.1 k).2.1,(au m.2.2.2.1 k).2.2.1,m.2.2.1,(au m.2.2.2.1 k).2.2.2.2.1,(y.1,y.2,()),()),m.2.2.2.2.1++[k],m.2.2.2.2.2) t (y.1,y.2,())).2.1=m.2.1:=by unfold kY;split<;>rfl
      rw[tw (by rw[h2];exact⟨t0,t1⟩) u0,Rk h2 u];rfl
    refine Ls (m:=(m.1,m.2.1,m.2.2.1,m.2.2.2.1.set k.toNat ((au m.2.2.2.1 k).1,(au m.2.2.2.1 k).2.1,(au m.2.2.2.1 k).2.2.1,m.2.2.1,(au m.2.2.2.1 k).2.2.2.2.1,(y.1,y.2,()),()),m.2.2.2.2.1++[k],m.2.2.2.2.2)) (k:=k) (yes:=fun u=>if u=t then some (y.1,y.2,()) else mJ m u)
      t0 t1 I.n I.time ?_ I.th ho SI ?_ (aj rfl) (fun u _ h=>af h) ⟨R,hR,J0,hv⟩ I.first
    . refine I.mem.kz fun u u0 _=>?_
      unfold ga;rw[hJ u u0];by_cases h:u=t
      . rw[aj h,h,kg];simp[b9]
      . rw[af h]
    . exact⟨by simpa using hk.dL,by show(au (m.2.2.2.1.set _ _) k).1=t;rw[gk];exact hk.t,by show(au (m.2.2.2.1.set _ _) k).2.2.2.2.1 = -1;rw[gk];exact hk.fin⟩
  | none=>
    have ua:g7 (aY (aG m t)) ((aG m t).2.2.2.1++[(q,cj R q,())])=((false,eC (aY (aG m t)) ((aG m t).2.2.2.1++[(q,cj R q,())]),dw (aY (aG m t)) ((aG m t).2.2.2.1++[(q,cj R q,())]),()),true,()):=by unfold g7;rw[aj ⟨hop,hlt⟩,dJ]
    rw[ua];dsimp only;rw[af (by simp),af (by simp)];have hE:=Lm hop hg' tW pG dJ;have hEr:=Ln hop hg' tW pG dJ;have hEl:=(FQ hop hg' tW pG dJ).2.2;rw[cw,o3]at hEl;generalize hx:Rs (vI (aG m t) ((aG m t).2.2.2.1++[(q,cj R q,())])) (t,(aE m.1 t).1+1,0,0,())=x;have zV:x.2.2.2.2.1=[(t,(aE m.1 t).1+1,0,0,())]:=by rw[<-hx];show(aG m t).2.2.2.2.1++_=_;rw[hs];rfl
    have wI:x.2.2.2.1=(aG m t).2.2.2.1++[(q,cj R q,())]:=by rw[<-hx];rfl
    have JL:aY x=aY (aG m t):=by rw[<-hx];rfl
    have pK:x.2.2.1=true:=by rw[<-hx];exact ho
    have Cl:b9 x t=true:=(Gf x t).2 ⟨_,_,zV,rfl⟩;have nA:=I.mem.f5;obtain⟨hM,hH,hV⟩:=ajF I.mem t0 t1 hno (lq:=ga (cO (dj m (cr m.1 t ((aE m.1 t).1+1,1,dw (aY (aG m t)) ((aG m t).2.2.2.1++[(q,cj R q,())]),eC (aY (aG m t)) ((aG m t).2.2.2.1++[(q,cj R q,())]),()))) t x))
      (by unfold ga;rw[FR _ ⟨t0,t1⟩ t0,aj rfl];exact Cl) (fun u u0 h=>by unfold ga;rw[FR _ ⟨t0,t1⟩ u0,af h])
      (r:=eC (aY (aG m t)) ((aG m t).2.2.2.1++[(q,cj R q,())])) hE (by omega) hEr ud (La _ _)
    have hd:∀u:Int,0<=u->aE (cr m.1 t ((aE m.1 t).1+1,1,dw (aY (aG m t)) ((aG m t).2.2.2.1++[(q,cj R q,())]),eC (aY (aG m t)) ((aG m t).2.2.2.1++[(q,cj R q,())]),())) u=if u=t then ((aE m.1 t).1+1,1,dw (aY (aG m t)) ((aG m t).2.2.2.1++[(q,cj R q,())]),eC (aY (aG m t)) ((aG m t).2.2.2.1++[(q,cj R q,())]),()) else aE m.1 u:=fun u u0=>IC (by omega) u0
    have hdt:=(hd t t0).trans (aj rfl);have akx:=(I.mem.dI t t0 t1).seq.1;refine AT I t0 t1 hM (fun u u0 _ h=>by rw[hd u u0,af h];exact⟨rfl,rfl⟩) hH ?_ (by rw[<-hx];exact⟨rfl,rfl,rfl⟩) (fun u u0 _=>?_) hV
    . exact { ops:=by rw[<-hx];exact T.ops,pc:=by rw[<-hx];exact T.pc,on:=fun _=>by rw[<-hx];exact T.on ho,off:=fun e=>by rw[pK]at e;cases e
              got:=by rw[wI];exact hg'
              st:=.inr (.inl ⟨_,zV⟩)
              jI:=fun k hk=>by
                rw[zV,er]at hk;subst hk;refine⟨⟨t0,t1⟩,⟨by dsimp only;omega,by dsimp only;rw[hdt];exact vA _⟩,⟨by dsimp only;omega,by dsimp only;omega⟩,⟨by dsimp only;omega,by dsimp only;omega⟩,fun _=>⟨by dsimp only;omega,by dsimp only;omega,fun _=>⟨rfl,fun i a b=>?_⟩,fun _ i a b=>?_⟩⟩
                . dsimp only at b;omega
                . dsimp only at b;omega
              own:=fun k hk _=>by
                rw[zV,er]at hk;rw[hk,hdt]
              along:=fun _=>by rw[wI,JL];exact tW
              read:=fun _ e=>by rw[Cl]at e;cases e
              plan:=fun _=>by rw[wI,JL,hdt];exact⟨pG,dJ,rfl,rfl⟩ }
    . by_cases h:u=t
      . subst h
        rw[SM];unfold mJ;rw[show(cO (dj m (cr m.1 u ((aE m.1 u).1+1,1,dw (aY (aG m u)) ((aG m u).2.2.2.1++[(q,cj R q,())]),eC (aY (aG m u)) ((aG m u).2.2.2.1++[(q,cj R q,())]),()))) u x).1=cr m.1 u ((aE m.1 u).1+1,1,dw (aY (aG m u)) ((aG m u).2.2.2.1++[(q,cj R q,())]),eC (aY (aG m u)) ((aG m u).2.2.2.1++[(q,cj R q,())]),()) from rfl,hdt,af (fun z=>by have:=z.2;dsimp only at this;omega)]
      . unfold mJ
        rw[show(cO (dj m (cr m.1 t ((aE m.1 t).1+1,1,dw (aY (aG m t)) ((aG m t).2.2.2.1++[(q,cj R q,())]),eC (aY (aG m t)) ((aG m t).2.2.2.1++[(q,cj R q,())]),()))) t x).1=cr m.1 t ((aE m.1 t).1+1,1,dw (aY (aG m t)) ((aG m t).2.2.2.1++[(q,cj R q,())]),eC (aY (aG m t)) ((aG m t).2.2.2.1++[(q,cj R q,())]),()) from rfl,hd u u0,af h,FR _ ⟨t0,t1⟩ u0,af h]
theorem Ud{m:aN}(I:Inv m):Inv (tick m) where
 n:=I.n
 time:=by have:=I.time;show 0<=m.2.2.1+1;omega
 mem:=I.mem.Ct (by show m.2.2.1<=m.2.2.1+1;omega)
 th:=I.th
 call:=I.call.same (by show m.2.2.1<=m.2.2.1+1;omega) (fun _ _ _=>⟨rfl,rfl,rfl,rfl⟩)
 rep:=I.rep
 first:=I.first
theorem ajm{m:aN}(I:Inv m){t:Int}(t0:0<=t)(t1:t<m.2.1.length)(ho:(aG m t).2.2.1=false)(hp:(aG m t).2.1<(aG m t).1.length):Inv (rK (tick m) t):=by
 have T:=I.th t t0 t1;have Cm:=T.pc;have hoff:=T.off ho;have hop:cH (aY (aG m t))=true:=by unfold aY;rw[qv (show(aG m t).2.1.toNat<(aG m t).1.length by omega)];exact T.ops.2 _ (ef _)
 have hl:(rK (tick m) t).2.1.length=m.2.1.length:=sn _ _ _;have hJ:∀u:Int,0<=u->aG (rK (tick m) t) u=if u=t then ((aG m t).1,(aG m t).2.1,true,(aG m t).2.2.2) else aG m u:=fun u u0=>tw (m:=(m.1,m.2.1,_)) ⟨t0,t1⟩ u0
 have hown:∀u:Int,0<=u->b9 (aG (rK (tick m) t) u) u=b9 (aG m u) u:=by
  intro u u0;rw[hJ u u0];by_cases h:u=t
  .subst h;rw[aj rfl];rfl
  .rw[af h]
 have zS:(aG m t).2.2.2=([],[],()):=Prod.ext hoff.1 (Prod.ext hoff.2 rfl);refine⟨by rw[hl];exact I.n,by have:=I.time;show 0<=m.2.2.1+1;omega,?_,?_,?_,?_,I.first⟩
 .rw[hl];refine(I.mem.Ct (by show m.2.2.1<=m.2.2.1+1;omega)).kz fun u u0 _=>?_;unfold ga;rw[hown u u0]
 .intro u u0 u1;rw[hl]at u1⊢;rw[hJ u u0];by_cases h:u=t
  .subst h;rw[aj rfl,zS];exact T.rest true (fun _=>hp)
  .rw[af h];exact I.th u u0 u1
 .rw[hl];have hb:=I.call.beg t0 t1 ho hop (by unfold mJ;rw[af (fun z=>by rw[Rz hoff.2]at z;cases z.1)]) (on':=fun u=>(aG (rK (tick m) t) u).2.2.1) (by rw[hJ t t0,aj rfl]) (fun u u0 h=>by rw[hJ u u0,af h]) I.time;refine(hb.same (vA _) fun u u0 u1=>⟨rfl,?_,?_,?_⟩)
  .rw[hJ u u0];split
   .next h=>rw[h]
   .rfl
  .rw[hJ u u0];split
   .next h=>rw[h];rfl
   .rfl
  .unfold mJ;rw[hown u u0];rfl
 .obtain⟨R,h1,h2,h3⟩:=I.rep;refine⟨R,h1,?_,h3⟩;show iq (m.2.2.2.1++_) _ _ R;refine h2.same fun j hj=>?_;have hj':=I.call.f6 j hj;rw[Gc hj'.1,aj hj'.2.1];exact⟨rfl,rfl⟩
theorem QA{m:aN}(I:Inv m){t:Int}(t0:0<=t)(t1:t<m.2.1.length)(hp:(aG m t).2.1<(aG m t).1.length):Inv (BP m t):=by
 unfold BP;by_cases h1:(aG m t).2.2.1=false
 .rw[aj h1];exact ajm I t0 t1 h1 hp
 rw[af h1];by_cases h2:(aG m t).2.2.2.2.1≠[]
 .rw[aj h2];exact abv (Ud I) t0 t1 h2
 .rw[af h2];refine Qz (Ud I) t0 t1 (by show(aG m t).2.2.1=true;simpa using h1) (by show(aG m t).2.2.2.2.1=[];simpa using h2) ?_;have:=(I.mem.dI t t0 t1).seq.2;show(aE m.1 t).1+1<=m.2.2.1+1;omega
abbrev Bm:Ty:=(Ty.pair (Ty.int IntKind.i64) (Ty.pair (Ty.int IntKind.i64) (Ty.pair (Ty.sl (Ty.pair (Ty.int IntKind.i64) (Ty.pair (Ty.int IntKind.i64) (Ty.pair (Ty.int IntKind.i64) Ty.unit)))) (Ty.pair (Ty.pair (Ty.int IntKind.i64) (Ty.pair (Ty.sl (Ty.int IntKind.i64)) Ty.unit)) Ty.unit))))
theorem Qt{D:Den ctx}{n:Nat}{c:aZ}{K0:Int->Option ((Int×Unit)×Unit)}{K1:Option ((Int×Unit)×Unit)}{l:List (nW)}(hl:l.length<=1000000){f:nW->Bool}(hf:∀x∈l,gl ctx D c [bt.val Bm x] Ty.bool=some (f x)) :
  ∀(m i:Nat),i<=l.length->l.length-i<m->((l.drop i).any f=false->Iw D n c K0 K1 m l (l.length:Int) (i:Int)=K1)/\
   ((l.drop i).any f=true->∃j:Nat,Iw D n c K0 K1 m l (l.length:Int) (i:Int)=K0 (j:Int))
 | 0,i,_,h2=>by omega
 | m+1,i,h1,h2=>by
  simp only[Iw,qez];by_cases h:i<l.length
  .have ih:=Qt (n:=n) (K0:=K0) (K1:=K1) hl hf m (i+1) (by omega) (by omega);have e:=hf l[i] (ef _);rw[qf (by omega),ix h,aA,dQ,qv h,qu (by omega)];refine Eq.mpr (eM (fun z=>((List.drop i l).any f=false->qd z _=K1)/\((List.drop i l).any f=true->∃j:Nat,qd z _=K0 (j:Int))) e) ?_;rw[qc,rf h,uG];cases hx:f l[i]
   .rw[aJ,Cw];exact ih
   .rw[aA,uH];exact⟨fun q=>(by cases q),fun _=>⟨i,rfl⟩⟩
  .rw[qg (by omega),rm h];exact⟨fun _=>rfl,fun q=>(by simp at q)⟩
theorem agK{X:Ext}(hX:fR X){n:Nat}(hn:W+2<=n){c:aZ}{l:List (nW)}(hl:l.length<=1000000){f:nW->Bool}(hf:∀x∈l,gl ctx (DD X (n-2)) c [bt.val Bm x] Ty.bool=some (f x)) :
  qd3 (DD X n) l c=some ((l.any f,()),()):=by
 obtain⟨n,rfl⟩:∃k,n=k+2:=⟨n-2,by omega⟩
 have hW:=d7;rw[qod hX];simp only[qd5,qhm];rw[qqj hX];simp only[qfa,qff,qep];have key:=Qt (D:=DD X n) (n:=n) (c:=c) (K0:=fun v=>qd9 (DD X n) n c v) (K1:=qea (DD X n) n c) hl hf n 0 (eU _) (by omega);rw[iD]at key;rw[show(0:Int)=((0:Nat):Int) from rfl];cases hx:l.any f
 .rw[key.1 hx];simp[qea,qd]
 .obtain⟨j,hj⟩:=key.2 hx;rw[hj];simp[qd9,qd]
abbrev Bh:Ty:=(Ty.pair (Ty.int IntKind.i64) (Ty.pair (Ty.int IntKind.i64) (Ty.pair (Ty.int IntKind.i64) Ty.unit)))
theorem Qw{D:Den ctx}{n:Nat}{c:aZ}{K0:Int->Option ((Int×Unit)×Unit)}{K1:Option ((Int×Unit)×Unit)}{l:List (lQ)}(hl:l.length<=1000000){f:lQ->Bool}(hf:∀x∈l,gl ctx D c [bt.val Bh x] Ty.bool=some (f x)) :
  ∀(m i:Nat),i<=l.length->l.length-i<m->((l.drop i).any f=false->Iz D n c K0 K1 m l (l.length:Int) (i:Int)=K1)/\
   ((l.drop i).any f=true->∃j:Nat,Iz D n c K0 K1 m l (l.length:Int) (i:Int)=K0 (j:Int))
 | 0,i,_,h2=>by omega
 | m+1,i,h1,h2=>by
  simp only[Iz,qe5];by_cases h:i<l.length
  .have ih:=Qw (n:=n) (K0:=K0) (K1:=K1) hl hf m (i+1) (by omega) (by omega);have e:=hf l[i] (ef _);rw[qf (by omega),ix h,aA,dQ,qv h,qu (by omega)];refine Eq.mpr (eM (fun z=>((List.drop i l).any f=false->qd z _=K1)/\((List.drop i l).any f=true->∃j:Nat,qd z _=K0 (j:Int))) e) ?_;rw[qc,rf h,uG];cases hx:f l[i]
   .rw[aJ,Cw];exact ih
   .rw[aA,uH];exact⟨fun q=>(by cases q),fun _=>⟨i,rfl⟩⟩
  .rw[qg (by omega),rm h];exact⟨fun _=>rfl,fun q=>(by simp at q)⟩
theorem agN{X:Ext}(hX:fR X){n:Nat}(hn:W+2<=n){c:aZ}{l:List (lQ)}(hl:l.length<=1000000){f:lQ->Bool}(hf:∀x∈l,gl ctx (DD X (n-2)) c [bt.val Bh x] Ty.bool=some (f x)) :
  qd4 (DD X n) l c=some ((l.any f,()),()):=by
 obtain⟨n,rfl⟩:∃k,n=k+2:=⟨n-2,by omega⟩
 have hW:=d7;rw[qog hX];simp only[qd8,qhp];rw[qqm hX];simp only[qfd,qfi,qes];have key:=Qw (D:=DD X n) (n:=n) (c:=c) (K0:=fun v=>qef (DD X n) n c v) (K1:=qeg (DD X n) n c) hl hf n 0 (eU _) (by omega);rw[iD]at key;rw[show(0:Int)=((0:Nat):Int) from rfl];cases hx:l.any f
 .rw[key.1 hx];simp[qeg,qd]
 .obtain⟨j,hj⟩:=key.2 hx;rw[hj];simp[qef,qd]
abbrev B3:Ty:=(Ty.pair (Ty.int IntKind.i64) (Ty.pair (Ty.int IntKind.i64) (Ty.pair (Ty.int IntKind.i64) Ty.unit)))
theorem L2{D:Den ctx}{n:Nat}{c:aZ}{K0:Int->Option ((Int×Unit)×Unit)}{K1:Option ((Int×Unit)×Unit)}{l:List (cL)}(hl:l.length<=1000000){f:cL->Bool}(hf:∀x∈l,gl ctx D c [bt.val B3 x] Ty.bool=some (f x)) :
  ∀(m i:Nat),i<=l.length->l.length-i<m->((l.drop i).any f=false->IA D n c K0 K1 m l (l.length:Int) (i:Int)=K1)/\
   ((l.drop i).any f=true->∃j:Nat,IA D n c K0 K1 m l (l.length:Int) (i:Int)=K0 (j:Int))
 | 0,i,_,h2=>by omega
 | m+1,i,h1,h2=>by
  simp only[IA,qf7];by_cases h:i<l.length
  .have ih:=L2 (n:=n) (K0:=K0) (K1:=K1) hl hf m (i+1) (by omega) (by omega);have e:=hf l[i] (ef _);rw[qf (by omega),ix h,aA,dQ,qv h,qu (by omega)];refine Eq.mpr (eM (fun z=>((List.drop i l).any f=false->qd z _=K1)/\((List.drop i l).any f=true->∃j:Nat,qd z _=K0 (j:Int))) e) ?_;rw[qc,rf h,uG];cases hx:f l[i]
   .rw[aJ,Cw];exact ih
   .rw[aA,uH];exact⟨fun q=>(by cases q),fun _=>⟨i,rfl⟩⟩
  .rw[qg (by omega),rm h];exact⟨fun _=>rfl,fun q=>(by simp at q)⟩
theorem aiD{X:Ext}(hX:fR X){n:Nat}(hn:W+2<=n){c:aZ}{l:List (cL)}(hl:l.length<=1000000){f:cL->Bool}(hf:∀x∈l,gl ctx (DD X (n-2)) c [bt.val B3 x] Ty.bool=some (f x)) :
  qfn (DD X n) l c=some ((l.any f,()),()):=by
 obtain⟨n,rfl⟩:∃k,n=k+2:=⟨n-2,by omega⟩
 have hW:=d7;rw[qrj hX];simp only[qfo,qi8];rw[quf hX];simp only[qgm,qgp,qfz];have key:=L2 (D:=DD X n) (n:=n) (c:=c) (K0:=fun v=>qfp (DD X n) n c v) (K1:=qfq (DD X n) n c) hl hf n 0 (eU _) (by omega);rw[iD]at key;rw[show(0:Int)=((0:Nat):Int) from rfl];cases hx:l.any f
 .rw[key.1 hx];simp[qfq,qd]
 .obtain⟨j,hj⟩:=key.2 hx;rw[hj];simp[qfp,qd]
abbrev Bg:Ty:=(Ty.pair (Ty.int IntKind.i64) (Ty.pair (Ty.int IntKind.i64) Ty.unit))
theorem Qv{D:Den ctx}{n:Nat}{c:aZ}{K0:Int->Option ((Int×Unit)×Unit)}{K1:Option ((Int×Unit)×Unit)}{l:List (Int×Int×Unit)}(hl:l.length<=1000000){f:Int×Int×Unit->Bool}(hf:∀x∈l,gl ctx D c [bt.val Bg x] Ty.bool=some (f x)) :
  ∀(m i:Nat),i<=l.length->l.length-i<m->((l.drop i).any f=false->Iy D n c K0 K1 m l (l.length:Int) (i:Int)=K1)/\
   ((l.drop i).any f=true->∃j:Nat,Iy D n c K0 K1 m l (l.length:Int) (i:Int)=K0 (j:Int))
 | 0,i,_,h2=>by omega
 | m+1,i,h1,h2=>by
  simp only[Iy,qe3];by_cases h:i<l.length
  .have ih:=Qv (n:=n) (K0:=K0) (K1:=K1) hl hf m (i+1) (by omega) (by omega);have e:=hf l[i] (ef _);rw[qf (by omega),ix h,aA,dQ,qv h,qu (by omega)];refine Eq.mpr (eM (fun z=>((List.drop i l).any f=false->qd z _=K1)/\((List.drop i l).any f=true->∃j:Nat,qd z _=K0 (j:Int))) e) ?_;rw[qc,rf h,uG];cases hx:f l[i]
   .rw[aJ,Cw];exact ih
   .rw[aA,uH];exact⟨fun q=>(by cases q),fun _=>⟨i,rfl⟩⟩
  .rw[qg (by omega),rm h];exact⟨fun _=>rfl,fun q=>(by simp at q)⟩
theorem agM{X:Ext}(hX:fR X){n:Nat}(hn:W+2<=n){c:aZ}{l:List (Int×Int×Unit)}(hl:l.length<=1000000){f:Int×Int×Unit->Bool}(hf:∀x∈l,gl ctx (DD X (n-2)) c [bt.val Bg x] Ty.bool=some (f x)) :
  Tb (DD X n) l c=some ((l.any f,()),()):=by
 obtain⟨n,rfl⟩:∃k,n=k+2:=⟨n-2,by omega⟩
 have hW:=d7;rw[qof hX];simp only[qd7,qho];rw[qql hX];simp only[qfc,qfh,qer];have key:=Qv (D:=DD X n) (n:=n) (c:=c) (K0:=fun v=>qed (DD X n) n c v) (K1:=qee (DD X n) n c) hl hf n 0 (eU _) (by omega);rw[iD]at key;rw[show(0:Int)=((0:Nat):Int) from rfl];cases hx:l.any f
 .rw[key.1 hx];simp[qee,qd]
 .obtain⟨j,hj⟩:=key.2 hx;rw[hj];simp[qed,qd]
abbrev Bf:Ty:=(Ty.pair (Ty.int IntKind.i64) (Ty.pair (Ty.int IntKind.i64) (Ty.pair (Ty.int IntKind.i64) (Ty.pair (Ty.int IntKind.i64) Ty.unit))))
theorem Qu{D:Den ctx}{n:Nat}{c:aZ}{K0:Int->Option ((Int×Unit)×Unit)}{K1:Option ((Int×Unit)×Unit)}{l:List (kU)}(hl:l.length<=1000000){f:kU->Bool}(hf:∀x∈l,gl ctx D c [bt.val Bf x] Ty.bool=some (f x)) :
  ∀(m i:Nat),i<=l.length->l.length-i<m->((l.drop i).any f=false->Ix D n c K0 K1 m l (l.length:Int) (i:Int)=K1)/\
   ((l.drop i).any f=true->∃j:Nat,Ix D n c K0 K1 m l (l.length:Int) (i:Int)=K0 (j:Int))
 | 0,i,_,h2=>by omega
 | m+1,i,h1,h2=>by
  simp only[Ix,qe1];by_cases h:i<l.length
  .have ih:=Qu (n:=n) (K0:=K0) (K1:=K1) hl hf m (i+1) (by omega) (by omega);have e:=hf l[i] (ef _);rw[qf (by omega),ix h,aA,dQ,qv h,qu (by omega)];refine Eq.mpr (eM (fun z=>((List.drop i l).any f=false->qd z _=K1)/\((List.drop i l).any f=true->∃j:Nat,qd z _=K0 (j:Int))) e) ?_;rw[qc,rf h,uG];cases hx:f l[i]
   .rw[aJ,Cw];exact ih
   .rw[aA,uH];exact⟨fun q=>(by cases q),fun _=>⟨i,rfl⟩⟩
  .rw[qg (by omega),rm h];exact⟨fun _=>rfl,fun q=>(by simp at q)⟩
theorem agL{X:Ext}(hX:fR X){n:Nat}(hn:W+2<=n){c:aZ}{l:List (kU)}(hl:l.length<=1000000){f:kU->Bool}(hf:∀x∈l,gl ctx (DD X (n-2)) c [bt.val Bf x] Ty.bool=some (f x)) :
  Ta (DD X n) l c=some ((l.any f,()),()):=by
 obtain⟨n,rfl⟩:∃k,n=k+2:=⟨n-2,by omega⟩
 have hW:=d7;rw[qoe hX];simp only[qd6,qhn];rw[qqk hX];simp only[qfb,qfg,qeq];have key:=Qu (D:=DD X n) (n:=n) (c:=c) (K0:=fun v=>qeb (DD X n) n c v) (K1:=qec (DD X n) n c) hl hf n 0 (eU _) (by omega);rw[iD]at key;rw[show(0:Int)=((0:Nat):Int) from rfl];cases hx:l.any f
 .rw[key.1 hx];simp[qec,qd]
 .obtain⟨j,hj⟩:=key.2 hx;rw[hj];simp[qeb,qd]
abbrev BV:Ty:=(Ty.pair (Ty.int IntKind.i64) (Ty.pair (Ty.pair (Ty.int IntKind.i64) (Ty.pair (Ty.int IntKind.i64) (Ty.pair (Ty.int IntKind.i64) Ty.unit))) (Ty.pair (Ty.int IntKind.i64) (Ty.pair (Ty.int IntKind.i64) (Ty.pair (Ty.int IntKind.i64) (Ty.pair (Ty.pair (Ty.int IntKind.i64) (Ty.pair (Ty.sl (Ty.int IntKind.i64)) Ty.unit)) Ty.unit))))))
theorem EH{D:Den ctx}{n:Nat}{c:aZ}{K0:Int->Option ((Int×Unit)×Unit)}{K1:Option ((Int×Unit)×Unit)}{l:List (d8)}(hl:l.length<=1000000){f:d8->Bool}(hf:∀x∈l,gl ctx D c [bt.val BV x] Ty.bool=some (f x)) :
  ∀(m i:Nat),i<=l.length->l.length-i<m->((l.drop i).any f=false->ql D n c K0 K1 m l (l.length:Int) (i:Int)=K1)/\
   ((l.drop i).any f=true->∃j:Nat,ql D n c K0 K1 m l (l.length:Int) (i:Int)=K0 (j:Int))
 | 0,i,_,h2=>by omega
 | m+1,i,h1,h2=>by
  simp only[ql,qjs];by_cases h:i<l.length
  .have ih:=EH (n:=n) (K0:=K0) (K1:=K1) hl hf m (i+1) (by omega) (by omega);have e:=hf l[i] (ef _);rw[qf (by omega),ix h,aA,dQ,qv h,qu (by omega)];refine Eq.mpr (eM (fun z=>((List.drop i l).any f=false->qd z _=K1)/\((List.drop i l).any f=true->∃j:Nat,qd z _=K0 (j:Int))) e) ?_;rw[qc,rf h,uG];cases hx:f l[i]
   .rw[aJ,Cw];exact ih
   .rw[aA,uH];exact⟨fun q=>(by cases q),fun _=>⟨i,rfl⟩⟩
  .rw[qg (by omega),rm h];exact⟨fun _=>rfl,fun q=>(by simp at q)⟩
theorem acQ{X:Ext}(hX:fR X){n:Nat}(hn:W+2<=n){c:aZ}{l:List (d8)}(hl:l.length<=1000000){f:d8->Bool}(hf:∀x∈l,gl ctx (DD X (n-2)) c [bt.val BV x] Ty.bool=some (f x)) :
  qft (DD X n) l c=some ((l.any f,()),()):=by
 obtain⟨n,rfl⟩:∃k,n=k+2:=⟨n-2,by omega⟩
 have hW:=d7;rw[qr8 hX];simp only[qfx,ql6];rw[qnc hX];simp only[Th,Ti,qt];have key:=EH (D:=DD X n) (n:=n) (c:=c) (K0:=fun v=>qfy (DD X n) n c v) (K1:=qr (DD X n) n c) hl hf n 0 (eU _) (by omega);rw[iD]at key;rw[show(0:Int)=((0:Nat):Int) from rfl];cases hx:l.any f
 .rw[key.1 hx];simp[qr,qd]
 .obtain⟨j,hj⟩:=key.2 hx;rw[hj];simp[qfy,qd]
theorem jM{x a b:Int}(h:a<=x/\x<=b):bq x a b=true:=kF.2 h
section
variable {X:Ext} (hX:fR X) {n:Nat}
include hX
theorem An(hn:2<=n)(x:Int):IG (DD X n) x=some ((bq x 0 1000,()),()):=by
 obtain⟨n,rfl⟩:∃k,n=k+1:=⟨n-1,by omega⟩
 rw[aep hX];simp only[qv0,q9c];rw[lN hX (by omega),qc]
theorem K6(hn:2<=n)(x:Int):T6 (DD X n) x=some ((bq x 0 19,()),()):=by
 obtain⟨n,rfl⟩:∃k,n=k+1:=⟨n-1,by omega⟩
 rw[af4 hX];simp only[W7,Nf];rw[lN hX (by omega),qc]
theorem Qf(hn:3<=n){w:lQ}{th:Int}(h:Sn w\/∃u s,0<=u/\u<th/\1<=s/\s<=1000000/\w=fU u s):XW (DD X n) w th=some ((true,()),()):=by
 obtain⟨n,rfl⟩:∃k,n=k+1:=⟨n-1,by omega⟩
 rw[ahE hX];simp only[X9,Nr];rcases h with⟨h1,h2,h3,h4⟩ | ⟨u,s,h1,h2,h3,h4,e⟩
 .rw[qf h1,An hX (by omega),qc];dsimp only;rw[jM ⟨h3,h4⟩,bg,cT h2]
 .have e1:w.1=0:=by rw[e];rfl
  have e2:w.2.1=u+1:=by rw[e];rfl
  have e3:w.2.2.1=s:=by rw[e];rfl
  rw[qg (by omega),qf e1,lN hX (by omega),qc];dsimp only;rw[jM ⟨by omega,by omega⟩,aA,lN hX (by omega),qc];dsimp only;rw[jM ⟨by omega,by omega⟩]
theorem L0(N n:Nat)(hN:2<=N)(K0:Bool->nW->Option ((Bool×Unit)×Unit))(K1:nW->Option ((Bool×Unit)×Unit)){d:nW}{time:Int}(h:n8 d time):∀(m i:Nat),i<=d.2.2.1.length->d.2.2.1.length-i<m->
  RC (DD X N) n K0 K1 m d.2.2.1 (d.2.2.1.length:Int) (i:Int) d=K1 d
 | 0,i,_,h2=>by omega
 | m+1,i,h1,h2=>by
  have hlen:=h.len;simp only[RC,WW];by_cases hi:i<d.2.2.1.length
  .have hr:=h.dL _ (ef hi);have ih:=L0 N n hN K0 K1 h m (i+1) (by omega) (by omega);rw[qf (by omega),ix hi,aA,dQ,qv hi,qu (by omega),K6 hX (by omega),qc];dsimp only;rw[jM ⟨hr.1.1,by omega⟩,cE,aJ,An hX (by omega),qc];dsimp only;rw[jM hr.2.1,cE,aJ,An hX (by omega),qc];dsimp only;rw[jM hr.2.2,cE,aJ];by_cases h0:i=0
   .rw[qg (by omega)];exact ih
   .have e:wrap .i64 ((i:Int)-1)=((i-1:Nat):Int):=by rw[qs (by omega) (by omega)];omega
    have hlt:i-1<d.2.2.1.length:=by omega
    have rM:=AN.1 h.B8 (i-1) i hlt hi (by omega);rw[qf (by omega),e,ix hlt,aA,dQ,qv hlt,qg (by omega)];exact ih
  .rw[qg (by omega)]
theorem aaX(hn:W+3<=n){d:nW}{time:Int}(h:n8 d time)(ht:time<=1000000):XU (DD X n) d=some ((true,()),()):=by
 obtain⟨n,rfl⟩:∃k,n=k+1:=⟨n-1,by omega⟩
 have hW:=d7;have hlen:=h.len;have hs:=h.seq;rw[ahA hX];simp only[X5,Yf,qyc];by_cases h0:d.1=0
 .rw[qf h0,h.st.1 h0];simp[dD]
 .have hst:=h.st.2 (by omega);have hL:=L0 hX n n (by omega) (fun bN eD=>q8w (DD X n) n bN eD) (fun sF=>qv8 (DD X n) n sF) h n 0 (eU _) (by omega);rw[show((0:Nat):Int)=0 from rfl]at hL;rw[qg h0,hL];simp only[qv8];rw[lN hX (by omega),qc];dsimp only;rw[jM ⟨by omega,by omega⟩,aA,lN hX (by omega),qc];dsimp only;rw[jM hst,bg,cT (by omega)]
theorem Mv(D:Den ctx)(n:Nat)(K0:Bool->eB->Option ((eB×Bool×Unit)×Unit))(K1:eB->Option ((eB×Bool×Unit)×Unit))(p:Int)(l:List eB)(hl:l.length<=1000)(z:eB):∀(m i:Nat),i<=l.length->l.length-i<m->
  Rh D n K0 K1 m p l (l.length:Int) (i:Int) z=match (l.drop i).find? (fun e=>decide (e.1=p)) with | some e=>K0 true e | none=>K1 z
 | 0,i,_,h2=>by omega
 | m+1,i,h1,h2=>by
  simp only[Rh,qye];by_cases hi:i<l.length
  .have ih:=Mv D n K0 K1 p l hl z m (i+1) (by omega) (by omega);rw[qf (by omega),ix hi,aA,dQ,qv hi,qu (by omega),rf hi,List.find?_cons];by_cases h:l[i].1=p
   .rw[qf h,cT h]
   .rw[qg h,bJ h];exact ih
  .rw[qg (by omega),rm hi];rfl
theorem ag3(hn:W+1<=n)(d:nW)(hl:d.2.2.1.length<=1000)(p:Int):qs7 (DD X n) d p=some ((jm d.2.2.1 p,d.2.2.1.any (fun e:eB=>decide (e.1=p)),()),()):=by
 obtain⟨n,rfl⟩:∃k,n=k+1:=⟨n-1,by omega⟩
 have hW:=d7;rw[agq hX];simp only[Wy,WX,qv9];have hL:=Mv (X:=X) hX (DD X n) n (fun bN eD=>q6b (DD X n) n bN eD) (fun sF=>q6c (DD X n) n sF) p d.2.2.1 hl (0,0,0,()) n 0 (eU _) (by omega);rw[show((0:Nat):Int)=0 from rfl]at hL;rw[hL,iD];unfold jm;cases hf:d.2.2.1.find? (fun e:eB=>decide (e.1=p)) with
 | none=>
  have:(d.2.2.1.any fun e:eB=>decide (e.1=p))=false:=by rw[List.any_eq_false];rw[List.find?_eq_none]at hf;exact hf
  rw[this];rfl
 | some e=>
  have:(d.2.2.1.any fun e:eB=>decide (e.1=p))=true:=by rw[Ez];exact⟨e,List.mem_of_find?_eq_some hf,List.find?_some (p:=fun e:eB=>decide (e.1=p)) hf⟩
  rw[this];rfl
theorem abm(hn:W+4<=n)(d:nW){time:Int}(h:n8 d time)(ht:time<=1000000):gl ctx (DD X n) (aZ.mk 110 []) [bt.val Bm d] Ty.bool=some false:=by
 obtain⟨n,rfl⟩:∃k,n=k+1:=⟨n-1,by omega⟩
 have e:∀D:Den ctx,gl ctx D (aZ.mk 110 []) [bt.val Bm d] Ty.bool=(M3 D d).bind fun r=>some r.1.1:=fun D=>by kernel_rfl
 rw[e,ags hX];simp only[WB,MV];rw[aaX hX (by omega) h ht,qc];rfl
theorem LB(N n:Nat)(hN:W+3<=N)(K0:Bool->Option ((Bool×Unit)×Unit))(K1:Option ((Bool×Unit)×Unit)){m:bw}{k:Nat}{time:Int}{own:Int->Prop}(I:fz m k time own)(ht:time<=1000000)(hk:k<=4):∀(c i:Nat),i<=m.1.length->m.1.length-i<c->
  RM (DD X N) n K0 K1 c m.1 (m.1.length:Int) (i:Int) m=K1
 | 0,i,_,h2=>by omega
 | c+1,i,h1,h2=>by
  have hlen:=I.len;have hd:=I.f5;simp only[RM,Yi];by_cases hi:i<m.1.length
  .have ih:=LB N n hN K0 K1 I ht hk c (i+1) (by omega) (by omega);have hw:wd m (i:Int)=m.1[i]:=by unfold wd;rw[dQ,qv hi]
   have w4:=I.word (i:Int) (by omega) (by omega);unfold A_ at w4;rw[hw]at w4;rw[qf (by omega),ix hi,aA,dQ,qv hi,qu (by omega)];rcases w4 with h | ⟨u,u0,u1,uo,e,j,j0,j1,je⟩
   .rw[Qf hX (by omega) (.inl h),qc];dsimp only;rw[cE,aJ,qf h.1];exact ih
   .have hs:=I.lu u u0 u1 uo;have SJ:=(I.dI u u0 u1).seq;have nA:=(I.dI u u0 u1).len;have e2:(m.1[i]).2.1=u+1:=by rw[e];rfl
    have e3:(m.1[i]).2.2.1=(aE m u).1:=by rw[e];rfl
    rw[Qf hX (by omega) (.inr ⟨u,_,u0,by omega,hs,by omega,e⟩),qc];dsimp only;have e1:wrap .i64 ((m.1[i]).2.1-1)=u:=by rw[qs (by omega) (by omega)];omega
    rw[cE,aJ,qg (by omega),e1,fL u0 (by omega),aA];have Dm:m.2.1.getD u.toNat (0,0,[],(0,[],()),())=aE m u:=rfl;rw[Dm,ag3 hX (by omega) _ (by omega),qc];dsimp only;have UY:((aE m u).2.2.1.any fun e:eB=>decide (e.1=(i:Int)))=true:=by rw[Ez];exact⟨_,SZ j0 j1,by rw[gI];exact je⟩
    rw[UY,cE,aW,bA,cT e3.symm,cE,aJ];exact ih
  .rw[qg (by omega)]
theorem xD(hn:W+7<=n){m:bw}{k:Nat}{time:Int}{own:Int->Prop}(I:fz m k time own)(ht:time<=1000000)(h1:1<=k)(hk:k<=4):Hq (DD X n) m=some ((true,()),()):=by
 obtain⟨n,rfl⟩:∃k,n=k+1:=⟨n-1,by omega⟩
 have hW:=d7;have hlen:=I.len;have hd:=I.f5;rw[aiu hX];simp only[YE,YZ,W0];have Va:∀x∈m.2.1,n8 x time:=by intro x hx;obtain⟨j,hj,rfl⟩:=kR.1 hx;have:=I.dI (j:Int) (by omega) (by omega);unfold aE at this;rw[dQ,qv hj]at this;exact this
 rw[show((m.1.length:Int) != 20)=false by rw[bA,cT (by omega)];rfl,aJ,lN hX (by omega),qc];dsimp only;rw[jM ⟨by omega,by omega⟩,cE,aJ,agK hX (by omega) (by omega) (f:=fun _=>false) (fun x hx=>abm hX (by omega) x (Va x hx) ht),qc];dsimp only;rw[show(m.2.1.any fun _=>false)=false by simp,aJ];have hL:=LB hX n n (by omega) (fun bN=>MJ (DD X n) n bN) (MK (DD X n) n) I ht hk n 0 (eU _) (by omega);rw[show((0:Nat):Int)=0 from rfl]at hL;rw[hL];rfl
end
def gR(l:List d8)(t:Int):Nat->Int
 | 0=>0
 | i+1=>gR l t i+if (l.getD i dC).1=t/\(l.getD i dC).2.2.2.2.1>=0 then 1 else 0
def gm(l:List d8)(t:Int):Nat->Int
 | 0=>0
 | i+1=>gm l t i+if (l.getD i dC).1=t/\¬ (l.getD i dC).2.2.2.2.1>=0 then 1 else 0
def zd(l:List d8)(t:Int):Nat->Int
 | 0=>-1
 | i+1=>if (l.getD i dC).1=t then (i:Int) else zd l t i
def mN(l:List d8):Nat->Int
 | 0=>0
 | i+1=>mN l i+if (l.getD i dC).2.2.2.1>=0 then 1 else 0
theorem Fx(l:List d8)(t:Int):∀i,i<=l.length->gR l t i=(vU (l.take i) t:Int)
 | 0,_=>by simp[gR,vU]
 | i+1,h=>by
  have hi:i<l.length:=by omega
  simp only[gR];rw[Fx l t i (by omega),mw hi,O2,qv hi];by_cases q:l[i].1=t/\0<=l[i].2.2.2.2.1
  .rw[aj q,aj q];omega
  .rw[af q,af q];omega
theorem vG(l:List d8)(i:Nat):au l (i:Int)=l.getD i dC:=by unfold au;rw[dQ]
theorem xE(l:List d8)(t:Int):∀i,0<=gR l t i/\gR l t i<=i/\0<=gm l t i/\gm l t i<=i/\0<=mN l i/\mN l i<=i/\-1<=zd l t i/\zd l t i<i
 | 0=>by simp[gR,gm,mN,zd]
 | i+1=>by
  have:=xE l t i;simp only[gR,gm,mN,zd];refine⟨?_,?_,?_,?_,?_,?_,?_,?_⟩<;>split<;>omega
section
variable {l:List d8} {ord:List Int} {n:Nat} {time:Int} {on:Int->Bool} {pc:Int->Int} {op:Int->cL} {yes:Int->Option fF} (I:gh l ord n time on pc op yes)
include I
theorem FD{t k:Int}(hk:f4 l t k):∀i,i<=l.length->k<i->zd l t i=k/\gm l t i=1
 | 0,_,h=>by have:=hk.dL;omega
 | i+1,hi,h=>by
  simp only[zd,gm];have hr:=hk.dL;by_cases e:k=(i:Int)
  .have h1:=hk.t;have h2:=hk.fin;rw[e,vG]at h1 h2;rw[aj h1,aj ⟨h1,by omega⟩];refine⟨e.symm,?_⟩;have key:∀j,j<=i->gm l t j=0:=by
    intro j
    induction j with
    | zero=>intro _;rfl
    | succ j ih=>
     intro hj;simp only[gm];rw[ih (by omega),af]
     .rfl
     .rintro⟨q1,q2⟩;have hf:=(I.c (j:Int) (by omega) (by omega)).fin;rw[vG]at hf;have:=I.uniq (t:=t) (i:=(j:Int)) ⟨⟨by omega,by omega⟩,by rw[vG];exact q1,by rw[vG];omega⟩ hk;omega
   rw[key i (b7 _)];rfl
  .obtain⟨i1,i2⟩:=FD hk i (by omega) (by omega);have hne:¬ (l.getD i dC).1=t:=by intro q;have:=(I.before k (i:Int) hr.1 (by omega) (by omega) (by rw[hk.t,vG];exact q.symm)).1;have:=hk.fin;omega
   rw[af hne,af (fun q=>hne q.1),i1,i2];exact⟨rfl,rfl⟩
theorem FH{t:Int}(h:∀k:Int,0<=k->k<l.length->(au l k).1=t->0<=(au l k).2.2.2.2.1):∀i,i<=l.length->gm l t i=0
 | 0,_=>rfl
 | i+1,hi=>by
  simp only[gm];rw[FH h i (by omega),af]
  .rfl
  .rintro⟨q1,q2⟩;have:=h (i:Int) (by omega) (by omega) (by rw[vG];exact q1);rw[vG]at this;exact q2 this
theorem Qj:mN l l.length=ord.length:=by
 have key:∀i,mN l i=((((List.range i).filter fun j=>decide (0<=(l.getD j dC).2.2.2.1)).map fun j:Nat=>(j:Int)).length:Int):=by
  intro i
  induction i with
  | zero=>rfl
  | succ i ih=>
   simp only[mN];rw[ih,List.range_succ,G_,o5,cw];by_cases h:0<=(l.getD i dC).2.2.2.1
   .rw[aj h,show [i].filter (fun j=>decide (0<=(l.getD j dC).2.2.2.1))=[i] by rw[Aa,cT h];rfl];rfl
   .rw[af h,show [i].filter (fun j=>decide (0<=(l.getD j dC).2.2.2.1))=[] by rw[Aa,bJ h];rfl];rfl
 rw[key];have hp:(((List.range l.length).filter fun j=>decide (0<=(l.getD j dC).2.2.2.1)).map fun j:Nat=>(j:Int)).Perm ord:=by
  rw[LN ?_ I.nodup]
  .intro a;simp only[eE,A5,se,gI];constructor
   .rintro⟨j,⟨h1,h2⟩,rfl⟩;exact I.all (j:Int) (by omega) (by omega) (by rw[vG];exact h2)
   .intro ha;have:=I.f6 a ha;refine⟨a.toNat,⟨by omega,?_⟩,by omega⟩;have h3:=this.2.2;unfold au at h3;exact h3
  .rw[List.Nodup,Af];exact(List.nodup_range.filter _).imp fun {a b} h q=>h (by omega)
 rw[hp.length_eq]
theorem aaC(hn:n<=3)(hp:∀t:Int,0<=t->t<n->pc t<=4):l.length<=15:=by
 have hO:∀t:Int,0<=t->t<n->gm l t l.length<=1:=by
  intro t t0 t1;cases ho:on t with
  | true=>obtain⟨k,hk,_⟩:=I.l_ t t0 t1 ho;rw[(FD I hk l.length (b7 _) (by have:=hk.dL;omega)).2];exact vA _
  | false=>rw[FH I (I.off t t0 t1 ho) l.length (b7 _)];decide
 have hE:∀t:Int,0<=t->t<n->gR l t l.length<=4:=by intro t t0 t1;rw[Fx l t l.length (b7 _),Ag,I.cnt t t0 t1];exact hp t t0 t1
 have hz:∀(t:Int),¬ (0<=t/\t<n)->∀i,i<=l.length->gR l t i+gm l t i=0:=by
  intro t ht i
  induction i with
  | zero=>intro _;rfl
  | succ i ih=>intro hi;have:=(I.c (i:Int) (by omega) (by omega)).t;rw[vG]at this;simp only[gR,gm];rw[af (fun q=>ht (by rw[<-q.1];exact this)),af (fun q=>ht (by rw[<-q.1];exact this))];have:=ih (by omega);omega
 have hs:∀i,i<=l.length->(i:Int)=(gR l 0 i+gm l 0 i)+(gR l 1 i+gm l 1 i)+(gR l 2 i+gm l 2 i):=by
  intro i
  induction i with
  | zero=>intro _;rfl
  | succ i ih=>
   intro hi;have h1:=(I.c (i:Int) (by omega) (by omega)).t;rw[vG]at h1;have h2:=ih (by omega);have one:∀t:Int,gR l t (i+1)+gm l t (i+1)=gR l t i+gm l t i+if (l.getD i dC).1=t then 1 else 0:=by
    intro t;simp only[gR,gm];by_cases a:(l.getD i dC).1=t
    .by_cases b:(l.getD i dC).2.2.2.2.1>=0
     .rw[aj ⟨a,b⟩,af (fun q=>q.2 b),aj a];omega
     .rw[af (fun q=>b q.2),aj ⟨a,b⟩,aj a];omega
    .rw[af (fun q=>a q.1),af (fun q=>a q.1),af a];omega
   rw[one 0,one 1,one 2];have h3:(l.getD i dC).1=0\/(l.getD i dC).1=1\/(l.getD i dC).1=2:=by omega
   rcases h3 with e | e | e
   .rw[aj e,af (by omega),af (by omega)];omega
   .rw[af (by omega),aj e,af (by omega)];omega
   .rw[af (by omega),af (by omega),aj e];omega
 have hall:∀t:Int,gR l t l.length+gm l t l.length<=5:=by
  intro t;by_cases h:0<=t/\t<n
  .have:=hO t h.1 h.2;have:=hE t h.1 h.2;omega
  .rw[hz t h l.length (b7 _)];decide
 have:=hs l.length (b7 _);have:=hall 0;have:=hall 1;have:=hall 2
 omega
end
section
variable {X:Ext} (hX:fR X) {n:Nat}
include hX
theorem aj5(hn:6<=n)(o:cL)(h:cH o=true):gl ctx (DD X n) (aZ.mk 121 []) [bt.val B3 o] Ty.bool=some false:=by
 obtain⟨n,rfl⟩:∃k,n=k+1:=⟨n-1,by omega⟩
 have e:∀D:Den ctx,gl ctx D (aZ.mk 121 []) [bt.val B3 o] Ty.bool=(q54 D o).bind fun r=>some r.1.1:=fun D=>by kernel_rfl
 obtain⟨a,b,c,⟨⟩⟩:=o;rw[e,adR hX];simp only[qt6,q6i];rw[I1 hX (by omega),h,qc];rfl
theorem aba(hn:3<=n)(g:Int×Int×Unit)(h:(0<=g.1/\g.1<20)/\0<=g.2.1/\g.2.1<=1000):gl ctx (DD X n) (aZ.mk 123 []) [bt.val Bg g] Ty.bool=some false:=by
 obtain⟨n,rfl⟩:∃k,n=k+1:=⟨n-1,by omega⟩
 have e:∀D:Den ctx,gl ctx D (aZ.mk 123 []) [bt.val Bg g] Ty.bool=(q55 D g).bind fun r=>some r.1.1:=fun D=>by kernel_rfl
 rw[e,adS hX];simp only[qt7,q6j];rw[K6 hX (by omega),qc];dsimp only;rw[jM ⟨h.1.1,by omega⟩,cE,aJ,An hX (by omega),qc];dsimp only;rw[jM h.2];rfl
theorem abr(hn:2<=n)(k:kU)(th:Int)(ue:0<=th/\th<=100)(h1:0<=k.1/\k.1<th)(h2:1<=k.2.1/\k.2.1<=1000000)(h3:0<=k.2.2.1/\k.2.2.1<=20)(h4:0<=k.2.2.2.1/\k.2.2.2.1<=20) :
  gl ctx (DD X n) (aZ.mk 127 [bt.bZ (Ty.int IntKind.i64) th]) [bt.val Bf k] Ty.bool=some false:=by
 obtain⟨n,rfl⟩:∃k,n=k+1:=⟨n-1,by omega⟩
 have e:∀D:Den ctx,gl ctx D (aZ.mk 127 [bt.bZ (Ty.int IntKind.i64) th]) [bt.val Bf k] Ty.bool=(q56 D k th).bind fun r=>some r.1.1:=fun D=>by kernel_rfl
 rw[e,adT hX];simp only[qt8,q6k];rw[qs (by omega) (by omega),lN hX (by omega),qc];dsimp only;rw[jM ⟨h1.1,by omega⟩,cE,aJ,lN hX (by omega),qc];dsimp only;rw[jM h2,cE,aJ,lN hX (by omega),qc];dsimp only;rw[jM h3,cE,aJ,lN hX (by omega),qc];dsimp only;rw[jM h4];rfl
theorem zw{α:Type}(l:List α):(l.any fun _=>false)=false:=by simp
theorem aiY{m:bw}{k:Nat}{x:eP}{t:Int}(T:j5 m k x t):∀g∈x.2.2.2.1,(0<=g.1/\g.1<20)/\0<=g.2.1/\g.2.1<=1000:=by
 intro g hg;have hv:=T.got g hg;cases ho:x.2.2.1 with
 | false=>rw[(T.off ho).1]at hg;simp at hg
 | true=>exact⟨(R4 (T.op ho) T.got (T.along ho)).2.1 _ (eE.2 ⟨g,hg,rfl⟩),by omega⟩
theorem GI{m:bw}{k:Nat}{x:eP}{t:Int}(T:j5 m k x t):x.2.2.2.1.length<=8:=by
 cases ho:x.2.2.1 with
 | false=>rw[(T.off ho).1];simp
 | true=>exact(R4 (T.op ho) T.got (T.along ho)).2.2
theorem GM{m:bw}{k:Nat}{x:eP}{t:Int}(T:j5 m k x t):x.2.2.2.2.1.length<=2:=by rcases T.st with e | ⟨h,e⟩ | ⟨h,h',e,_⟩<;>rw[e]<;>simp
theorem ZN(hn:W+9<=n){m:bw}{k:Nat}{x:eP}{t:Int}(T:j5 m k x t)(hk:k<=3)(hs:∀u:Int,0<=u->u<k->(aE m u).1<=1000000):qxn (DD X n) x (k:Int)=some ((true,()),()):=by
 obtain⟨n,rfl⟩:∃k,n=k+1:=⟨n-1,by omega⟩
 have hW:=d7;have h1:=T.ops;have h2:=T.pc;have h3:=GI hX T;have h4:=GM hX T;rw[afl hX];simp only[qxx,ML];have bf:qd (Tb (DD X n) x.2.2.2.1 (aZ.mk 123 [])) (fun b=>br b.1.1 (some ((false,()),())) (qd (Ta (DD X n) x.2.2.2.2.1 (aZ.mk 127 [bt.bZ (Ty.int IntKind.i64) (k:Int)])) fun b=>some ((!b.1.1,()),())))=some ((true,()),()):=by
  rw[agM hX (by omega) (show List.length x.2.2.2.1<=1000000 by omega) (f:=fun _=>false) (fun g hg=>aba hX (by omega) g (aiY hX T g hg)),qc];dsimp only;rw[zw hX,aJ,agL hX (by omega) (by omega) (f:=fun _=>false) (fun q hq=>by
   have H:=T.jI q hq;have:=hs q.1 H.t.1 H.t.2;have:=H.seq;have:=H.v_;have:=H.fin;exact abr hX (by omega) q k (by omega) H.t (by omega) (by omega) (by omega)),qc]
  dsimp only;rw[zw hX];rfl
 rw[qg (by omega),aiD hX (by omega) (by omega) (f:=fun _=>false) (fun o ho=>aj5 hX (by omega) o (h1.2 o ho)),qc];dsimp only;rw[zw hX,aJ,lN hX (by omega),qc];dsimp only;rw[jM h2,cE,aW];cases ho:x.2.2.1 with
 | true=>have:=T.on ho;rw[bg,bJ (by omega),aW,bJ (by omega),aW,bJ (by omega),aJ,cE,aJ];exact bf
 | false=>have:=T.off ho;rw[aW,aW,bJ (by omega),aW,bJ (by omega),aJ,gf,aA,qg (by rw[this.1,this.2];decide)];exact bf
theorem Lh(D:Den ctx)(n:Nat)(K:Int->Int->Int->aN->eP->Option ((Bool×Unit)×Unit))(t:Int)(l:List d8)(hl:l.length<=1000)(m:aN)(x:eP):∀(c i:Nat),i<=l.length->l.length-i<c->
  Rn D n K c t (zd l t i) (gR l t i) (gm l t i) l (l.length:Int) (i:Int) m x=K (zd l t l.length) (gR l t l.length) (gm l t l.length) m x
 | 0,i,_,h2=>by omega
 | c+1,i,h1,h2=>by
  have hr:=xE l t i;simp only[Rn,qyw];by_cases hi:i<l.length
  .have ih:=Lh D n K t l hl m x c (i+1) (by omega) (by omega);simp only[zd,gR,gm]at ih;rw[qf (by omega),ix hi,aA,dQ,qu (by omega)];have hd:l.getD i (0,(0,0,0,()),0,0,0,(0,[],()),())=l.getD i dC:=rfl;rw[hd];by_cases a:(l.getD i dC).1=t
   .rw[show((l.getD i dC).1 != t)=false by rw[bA,cT a];rfl,aJ];rw[aj a]at ih;by_cases b:(l.getD i dC).2.2.2.2.1>=0
    .rw[qf b,qs (by omega) (by omega)];rw[aj ⟨a,b⟩,af (fun q=>q.2 b),xy]at ih;exact ih
    .rw[qg b,qs (by omega) (by omega)];rw[af (fun q=>b q.2),aj ⟨a,b⟩,xy]at ih;exact ih
   .rw[show((l.getD i dC).1 != t)=true by rw[bA,bJ a];rfl,aA];rw[af a,af (fun q=>a q.1),af (fun q=>a q.1),xy,xy]at ih;exact ih
  .rw[qg (by omega),show i=l.length by omega]
theorem UH(o:cL):pe (Ty.pair (Ty.int IntKind.i64) (Ty.pair (Ty.int IntKind.i64) (Ty.pair (Ty.int IntKind.i64) Ty.unit))) o o=true:=by obtain⟨a,b,c,⟨⟩⟩:=o;simp[pe]
theorem aaw(hn:W+1<=n){m:aN}(I:Inv m){t:Int}(t0:0<=t)(t1:t<m.2.1.length)(hl:m.2.2.2.1.length<=1000):WI (DD X n) m t=some ((true,()),()):=by
 obtain⟨n,rfl⟩:∃k,n=k+1:=⟨n-1,by omega⟩
 have hW:=d7;have T:=I.th t t0 t1;rw[agx hX];simp only[W1,Xw,qwf];have hL:=Lh hX (DD X n) n (fun bN eD ja jS HJ=>qur (DD X n) n bN eD ja jS HJ) t m.2.2.2.1 hl m (aG m t) n 0 (eU _) (by omega);have hx:m.2.1.getD t.toNat ([],0,false,[],[],())=aG m t:=rfl;rw[fL t0 t1,aA,hx];refine dF hL ?_;have hE:gR m.2.2.2.1 t m.2.2.2.1.length=(aG m t).2.1:=by rw[Fx _ _ _ (b7 _),Ag];exact I.call.cnt t t0 t1
 simp only[qur];rw[hE,bA,cT rfl,cE,aJ];cases ho:(aG m t).2.2.1 with
 | false=>rw[gf,aA,FH I.call (I.call.off t t0 t1 ho) _ (b7 _)];rfl
 | true=>obtain⟨k,hk,hop⟩:=I.call.l_ t t0 t1 ho;have hr:=hk.dL;obtain⟨e1,e2⟩:=FD I.call hk _ (b7 _) (by omega);have hp:=T.on ho;have JO:=T.pc.1;have hd:m.2.2.2.1.getD k.toNat (0,(0,0,0,()),0,0,0,(0,[],()),())=au m.2.2.2.1 k:=rfl;have oJ:(aG m t).1.getD (aG m t).2.1.toNat (0,0,0,())=aY (aG m t):=rfl;rw[cE,aJ,e1,e2,cT (show k>=0 from hr.1),bg,qf rfl,nR,cT hr.2,aA,hd,qf hk.fin,aA,fL JO hp,aA,hop,oJ,UH hX]
theorem Qp(D:Den ctx)(n:Nat)(K:Int->aN->Option ((Bool×Unit)×Unit))(l:List d8)(hl:l.length<=1000)(m:aN):∀(c i:Nat),i<=l.length->l.length-i<c->
  Rp D n K c (mN l i) l (l.length:Int) (i:Int) m=K (mN l l.length) m
 | 0,i,_,h2=>by omega
 | c+1,i,h1,h2=>by
  have hr:=xE l 0 i;simp only[Rp,qy1];by_cases hi:i<l.length
  .have ih:=Qp D n K l hl m c (i+1) (by omega) (by omega);simp only[mN]at ih;rw[qf (by omega),ix hi,aA,dQ,qu (by omega)];have hd:l.getD i (0,(0,0,0,()),0,0,0,(0,[],()),())=l.getD i dC:=rfl;rw[hd];by_cases a:(l.getD i dC).2.2.2.1>=0
   .rw[qf a,qs (by omega) (by omega)];rw[aj a]at ih;exact ih
   .rw[qg a];rw[af a,xy]at ih;exact ih
  .rw[qg (by omega),show i=l.length by omega]
theorem Qq(N n:Nat)(hN:W+2<=N)(K0:Bool->Int->aN->Option ((Bool×Unit)×Unit))(K1:Int->aN->Option ((Bool×Unit)×Unit))(z:Int){m:aN}(I:Inv m)(hl:m.2.2.2.1.length<=1000)(zU:m.2.2.2.2.1.length<=1000):∀(c i:Nat),i<=m.2.2.2.2.1.length->m.2.2.2.2.1.length-i<c->
  Rq (DD X N) n K0 K1 c z m.2.2.2.2.1 (m.2.2.2.2.1.length:Int) (i:Int) m=K1 z m
 | 0,i,_,h2=>by omega
 | c+1,i,h1,h2=>by
  simp only[Rq,qy2];by_cases hi:i<m.2.2.2.2.1.length
  .have ih:=Qq N n hN K0 K1 z I hl zU c (i+1) (by omega) (by omega);have hk:=I.call.f6 _ (ef hi);rw[qf (by omega),ix hi,aA,dQ,qv hi,qu (by omega),qs (by omega) (by omega),lN hX (by omega),qc];dsimp only;have hd:∀k:Int,m.2.2.2.1.getD k.toNat (0,(0,0,0,()),0,0,0,(0,[],()),())=au m.2.2.2.1 k:=fun _=>rfl;have hni:m.2.2.2.2.1[i]∉List.drop (0:Int).toNat (List.take i m.2.2.2.2.1):=by rw[show(0:Int).toNat=0 from rfl,iD];intro q;obtain⟨j,hj,e⟩:=kR.1 q;rw[cY]at hj;rw[List.getElem_take]at e;have:=AN.1 I.call.nodup j i (by omega) hi (by omega);exact this e
   rw[jM ⟨hk.1,by omega⟩,cE,aJ,fL hk.1 hk.2.1,aA,hd,qg (by omega),
    show(decide ((0:Nat)<=0)&&decide (0<=(i:Int))&&decide ((i:Int)<=(m.2.2.2.2.1.length:Int)))=true by simp;omega,aA,Ot hX (by omega) _ (by simp;omega) _ hni,qc]
   dsimp only;rw[aJ];by_cases h0:i=0
   .rw[qg (by omega)];exact ih
   .have e:wrap .i64 ((i:Int)-1)=((i-1:Nat):Int):=by rw[qs (by omega) (by omega)];omega
    have hlt:i-1<m.2.2.2.2.1.length:=by omega
    have hk2:=I.call.f6 _ (ef hlt);have hs:=AN.1 I.call.sort (i-1) i hlt hi (by omega);rw[qf (by omega),e,ix hlt,aA,dQ,qv hlt,fL hk2.1 hk2.2.1,aA,aA,hd,qg (by omega)];exact ih
  .rw[qg (by omega)]
theorem aal(hn:W+3<=n){m:aN}(I:Inv m)(hl:m.2.2.2.1.length<=1000):WJ (DD X n) m=some ((true,()),()):=by
 obtain⟨n,rfl⟩:∃k,n=k+1:=⟨n-1,by omega⟩
 have hW:=d7;have ho:=Qj I.call;have hr:=xE m.2.2.2.1 0 m.2.2.2.1.length;have zU:m.2.2.2.2.1.length<=1000:=by omega
 rw[af5 hX];simp only[W8,Xy,qwh];refine dF (Qp hX (DD X n) n _ m.2.2.2.1 hl m n 0 (eU _) (by omega)) ?_;simp only[qut,qwi];refine dF (Qq hX n n (by omega) _ _ _ I hl zU n 0 (eU _) (by omega)) ?_;simp only[q6r];rw[ho,cT rfl]
theorem Ly(N n:Nat)(hN:6<=N)(K0:Bool->Int->aN->Option ((Bool×Unit)×Unit))(K1:Int->aN->Option ((Bool×Unit)×Unit)){m:aN}(I:Inv m)(hl:m.2.2.2.1.length<=1000):∀(c i:Nat),i<=m.2.2.2.1.length->m.2.2.2.1.length-i<c->
  Q9 (DD X N) n K0 K1 c (m.2.1.length:Int) m.2.2.2.1 (m.2.2.2.1.length:Int) (i:Int) m=K1 (m.2.1.length:Int) m
 | 0,i,_,h2=>by omega
 | c+1,i,h1,h2=>by
  simp only[Q9,qul];by_cases hi:i<m.2.2.2.1.length
  .have ih:=Ly N n hN K0 K1 I hl c (i+1) (by omega) (by omega);have hn:=I.n;have C:=I.call.c (i:Int) (by omega) (by omega);have hd:m.2.2.2.1.getD i (0,(0,0,0,()),0,0,0,(0,[],()),())=au m.2.2.2.1 (i:Int):=by unfold au;rw[dQ];rfl
   obtain⟨N,rfl⟩:∃k,N=k+1:=⟨N-1,by omega⟩
   have hst:=C.start;rw[qf (by omega),ix hi,aA,dQ,hd,qu (by omega),qs (by omega) (by omega),lN hX (by omega),qc];dsimp only;have hop:CK (DD X (N+1)) (au m.2.2.2.1 (i:Int)).2.1=some ((true,()),()):=by have:=I1 hX (n:=N+1) (by omega) (au m.2.2.2.1 (i:Int)).2.1.1 (au m.2.2.2.1 (i:Int)).2.1.2.1 (au m.2.2.2.1 (i:Int)).2.1.2.2.1;rw[show((au m.2.2.2.1 (i:Int)).2.1.1,(au m.2.2.2.1 (i:Int)).2.1.2.1,(au m.2.2.2.1 (i:Int)).2.1.2.2.1,())=(au m.2.2.2.1 (i:Int)).2.1 from rfl,C.op]at this;exact this
   have hwh:∀x:Int,(x = -1\/(au m.2.2.2.1 (i:Int)).2.2.1<=x/\x<=m.2.2.1)->TA (DD X (N+1)) (au m.2.2.2.1 (i:Int)) x m=some ((true,()),()):=by
    intro x hx;rw[ac3 hX];simp only[qru,q32];by_cases a:x = -1
    .rw[qf a]
    .rw[qg a,lN hX (by omega),qc];dsimp only;rw[jM (hx.resolve_left a)]
   have zQ:=C.o6;have oI:=C.fin;rw[jM ⟨C.t.1,by have:=C.t.2;omega⟩,cE,aJ,hop,qc];dsimp only;rw[cE,aJ,lN hX (by omega),qc];dsimp only;rw[jM hst,cE,aJ,hwh _ zQ,qc];dsimp only;rw[cE,aJ,hwh _ (by omega),qc];dsimp only;rw[cE,aJ];exact ih
  .rw[qg (by omega)]
theorem LA(N n:Nat)(hN:W+9<=N)(K0:Bool->aN->Option ((Bool×Unit)×Unit))(K1:aN->Option ((Bool×Unit)×Unit)){m:aN}(I:Inv m)(hl:m.2.2.2.1.length<=1000)(ht:m.2.2.1<=100000):∀(c i:Nat),i<=m.2.1.length->m.2.1.length-i<c->
  Re (DD X N) n K0 K1 c (m.2.1.length:Int) m.2.1 (m.2.1.length:Int) (i:Int) m=K1 m
 | 0,i,_,h2=>by omega
 | c+1,i,h1,h2=>by
  simp only[Re,qum];by_cases hi:i<m.2.1.length
  .have ih:=LA N n hN K0 K1 I hl ht c (i+1) (by omega) (by omega);have hn:=I.n;have T:=I.th (i:Int) (by omega) (by omega);have hd:m.2.1.getD i ([],0,false,[],[],())=aG m (i:Int):=by unfold aG;rw[dQ];rfl
   rw[qf (by omega),ix hi,aA,dQ,hd,qu (by omega),ZN hX (by omega) T (by omega) (fun u u0 u1=>by have:=(I.mem.dI u u0 u1).seq.2;omega),qc];dsimp only;rw[cE,aJ,aaw hX (by omega) I (by omega) (by omega) hl,qc];dsimp only;rw[cE,aJ];exact ih
  .rw[qg (by omega)]
theorem IX{m:aN}(I:Inv m):m.2.2.2.1.length<=15:=
 aaC I.call I.n.2 fun t t0 t1=>by have:=(I.th t t0 t1).pc;have:=(I.th t t0 t1).ops.1;omega
theorem Ry(hn:W+10<=n){m:aN}(I:Inv m)(ht:m.2.2.1<=100000):CC (DD X n) m=some ((true,()),()):=by
 obtain⟨n,rfl⟩:∃k,n=k+1:=⟨n-1,by omega⟩
 have hW:=d7;have hl:=IX hX I;have hn:=I.n;have nA:=I.mem.f5;have h0:=I.time;rw[aeF hX];simp only[qvx,qwb,qsd];rw[xD hX (by omega) I.mem (by omega) (by omega) (by omega),qc];dsimp only;rw[cE,aW,show((m.1.2.1.length:Int) != (m.2.1.length:Int))=false by rw[bA,cT (by omega)];rfl,aJ,lN hX (by omega),qc];dsimp only;rw[jM ⟨h0,ht⟩,cE,aW,qg (by omega),Kz hX (by omega) I.first,qc];dsimp only;rw[cE,aJ];refine dF (Ly hX n n (by omega) _ _ I (by omega) n 0 (eU _) (by omega)) ?_;simp only[qqs,qse];refine dF (LA hX n n (by omega) _ _ I (by omega) ht n 0 (eU _) (by omega)) ?_;simp only[q0a];rw[aal hX (by omega) I (by omega),qc]
end
section
variable {X:Ext} (hX:fR X) {n:Nat}
include hX
theorem MF(hn:1<=n)(l:List Int)(hl:l.length<=1000000):QZ (DD X n) l=some ((l,()),()):=by
 obtain⟨n,rfl⟩:∃k,n=k+1:=⟨n-1,by omega⟩
 have hb:=iG;rw[qvc hX];simp only[Tx,qmy];cases l with
 | nil=>simp[rZ,both,iG]
 | cons a l=>rw[qg (by rw[dQ];simp),qf (by simp only[ct]at hl⊢;omega)];rfl
theorem qts(hn:1<=n)(l:List cL)(hl:l.length<=1000000):To (DD X n) l=some ((l,()),()):=by
 obtain⟨n,rfl⟩:∃k,n=k+1:=⟨n-1,by omega⟩
 have hb:=iG;rw[qx3 hX];simp only[qh2,qmm];cases l with
 | nil=>simp[rZ,both,iG]
 | cons a l=>rw[qg (by rw[dQ];simp),qf (by simp only[ct]at hl⊢;omega)];rfl
theorem q3t(hn:1<=n)(l:dY)(hl:l.length<=1000000):qgh (DD X n) l=some ((l,()),()):=by
 obtain⟨n,rfl⟩:∃k,n=k+1:=⟨n-1,by omega⟩
 have hb:=iG;rw[qud hX];simp only[qgk,qkc];cases l with
 | nil=>simp[rZ,both,iG]
 | cons a l=>rw[qg (by rw[dQ];simp),qf (by simp only[ct]at hl⊢;omega)];rfl
theorem q3s(hn:1<=n)(l:List kU)(hl:l.length<=1000000):qgg (DD X n) l=some ((l,()),()):=by
 obtain⟨n,rfl⟩:∃k,n=k+1:=⟨n-1,by omega⟩
 have hb:=iG;rw[quc hX];simp only[qgj,qkb];cases l with
 | nil=>simp[rZ,both,iG]
 | cons a l=>rw[qg (by rw[dQ];simp),qf (by simp only[ct]at hl⊢;omega)];rfl
theorem q3u(hn:1<=n)(l:List lQ)(hl:l.length<=1000000):qgi (DD X n) l=some ((l,()),()):=by
 obtain⟨n,rfl⟩:∃k,n=k+1:=⟨n-1,by omega⟩
 have hb:=iG;rw[que hX];simp only[qgl,qkd];cases l with
 | nil=>simp[rZ,both,iG]
 | cons a l=>rw[qg (by rw[dQ];simp),qf (by simp only[ct]at hl⊢;omega)];rfl
theorem qm4(hn:1<=n)(l:List eB)(hl:l.length<=1000000):Tj (DD X n) l=some ((l,()),()):=by
 obtain⟨n,rfl⟩:∃k,n=k+1:=⟨n-1,by omega⟩
 have hb:=iG;rw[qrz hX];simp only[qfw,qjv];cases l with
 | nil=>simp[rZ,both,iG]
 | cons a l=>rw[qg (by rw[dQ];simp),qf (by simp only[ct]at hl⊢;omega)];rfl
theorem Im(hn:2<=n)(r:fF)(hl:r.2.1.length<=1000000):CG (DD X n) r=some ((r,()),()):=by
 obtain⟨n,rfl⟩:∃k,n=k+1:=⟨n-1,by omega⟩
 rw[agA hX];simp only[W5,Nc];rw[MF hX (by omega) _ hl,qc]
theorem Po(N n:Nat)(hN:2<=N)(K:bw->bw->Option ((bw×Unit)×Unit))(l:List nW)(hl:l.length<=1000)(h1:∀d∈l,d.2.2.1.length<=1000/\d.2.2.2.1.2.1.length<=1000)(z:bw)(w:List lQ):∀(c i:Nat),i<=l.length->l.length-i<c->
  Ro (DD X N) n K c l (l.length:Int) (i:Int) z (w,l.take i,())=K z (w,l,())
 | 0,i,_,h2=>by omega
 | c+1,i,h0,h2=>by
  have hb:=iG;simp only[Ro,qyy];by_cases hi:i<l.length
  .have ih:=Po N n hN K l hl h1 z w c (i+1) (by omega) (by omega);have hd:=h1 _ (ef hi);rw[qf (by omega),ix hi,aA,dQ,qv hi,qu (by omega),qm4 hX (by omega) _ (by omega),qc,Im hX (by omega) _ (by omega),qc];dsimp only;rw[qf (by rw[cY];omega)];rw[mw hi]at ih;exact ih
  .rw[qg (by omega),show l.take i=l from jf (by omega)]
theorem Fw(hn:W+3<=n)(m:bw)(hw:m.1.length<=1000)(hl:m.2.1.length<=1000)(h1:∀d∈m.2.1,d.2.2.1.length<=1000/\d.2.2.2.1.2.1.length<=1000):IK (DD X n) m=some ((m,()),()):=by
 obtain⟨n,rfl⟩:∃k,n=k+1:=⟨n-1,by omega⟩
 have hW:=d7;rw[agz hX];simp only[W4,Xx,qwg];rw[q3u hX (by omega) _ (by omega),qc];dsimp only;refine dF (Po hX n n (by omega) _ m.2.1 hl h1 ([],[],()) m.1 n 0 (eU _) (by omega)) ?_;rfl
theorem Ug(hn:2<=n)(x:eP)(h1:x.1.length<=1000)(h2:List.length x.2.2.2.1<=1000)(h3:x.2.2.2.2.1.length<=1000):IF (DD X n) x=some ((x,()),()):=by
 obtain⟨n,rfl⟩:∃k,n=k+1:=⟨n-1,by omega⟩
 rw[adV hX];simp only[qt9,q6o];rw[qts hX (by omega) _ (by omega),qc,q3t hX (by omega) _ (by omega),qc,q3s hX (by omega) _ (by omega),qc]
theorem P4(N n:Nat)(hN:2<=N)(K:aN->aN->aN->Option ((aN×Unit)×Unit))(l:List eP)(hl:l.length<=1000)(h1:∀x∈l,x.1.length<=1000/\List.length x.2.2.2.1<=1000/\x.2.2.2.2.1.length<=1000)(z1 z2:aN)(a:bw)(b:Int×List d8×List Int×qp×Unit):∀(c i:Nat),i<=l.length->l.length-i<c->
  Q5 (DD X N) n K c l (l.length:Int) (i:Int) z1 z2 (a,l.take i,b)=K z1 z2 (a,l,b)
 | 0,i,_,h2=>by omega
 | c+1,i,h0,h2=>by
  have hb:=iG;simp only[Q5,qqw];by_cases hi:i<l.length
  .have ih:=P4 N n hN K l hl h1 z1 z2 a b c (i+1) (by omega) (by omega);have hd:=h1 _ (ef hi);rw[qf (by omega),ix hi,aA,dQ,qv hi,qu (by omega),Ug hX (by omega) _ hd.1 hd.2.1 hd.2.2,qc];dsimp only;rw[qf (by rw[cY];omega)];rw[mw hi]at ih;exact ih
  .rw[qg (by omega),show l.take i=l from jf (by omega)]
theorem P3(N n:Nat)(hN:2<=N)(K:aN->aN->Option ((aN×Unit)×Unit))(l:List d8)(hl:l.length<=1000)(h1:∀x∈l,x.2.2.2.2.2.1.2.1.length<=1000)(z1:aN)(a:bw)(th:List eP)(ti:Int)(b:List Int×qp×Unit):∀(c i:Nat),i<=l.length->l.length-i<c->
  Q6 (DD X N) n K c l (l.length:Int) (i:Int) z1 (a,th,ti,l.take i,b)=K z1 (a,th,ti,l,b)
 | 0,i,_,h2=>by omega
 | c+1,i,h0,h2=>by
  have hb:=iG;simp only[Q6,qqx];by_cases hi:i<l.length
  .have ih:=P3 N n hN K l hl h1 z1 a th ti b c (i+1) (by omega) (by omega);have hd:=h1 _ (ef hi);rw[qf (by omega),ix hi,aA,dQ,qv hi,qu (by omega),Im hX (by omega) _ (by omega),qc];dsimp only;rw[qf (by rw[cY];omega)];rw[mw hi]at ih;exact ih
  .rw[qg (by omega),show l.take i=l from jf (by omega)]
structure B7 (m:aN):Prop where
 w:m.1.1.length<=1000
 d:m.1.2.1.length<=1000
 de:∀d∈m.1.2.1,d.2.2.1.length<=1000/\d.2.2.2.1.2.1.length<=1000
 t:m.2.1.length<=1000
 te:∀x∈m.2.1,x.1.length<=1000/\List.length x.2.2.2.1<=1000/\x.2.2.2.2.1.length<=1000
 c:m.2.2.2.1.length<=1000
 ce:∀x∈m.2.2.2.1,x.2.2.2.2.2.1.2.1.length<=1000
 o:m.2.2.2.2.1.length<=1000
 f:aM m.2.2.2.2.2.1
theorem qvp(hn:W+4<=n){m:aN}(h:B7 m):Q0 (DD X n) m=some ((m,()),()):=by
 obtain⟨n,rfl⟩:∃k,n=k+1:=⟨n-1,by omega⟩
 have hW:=d7;have ht:=h.t;have hc:=h.c
 rw[ac5 hX];simp only[qrw,qsi,qoy];rw[Fw hX (by omega) _ h.w h.d h.de,qc,MF hX (by omega) _ (by have:=h.o;omega),qc,S4 hX (by omega) h.f,qc];dsimp only;refine dF (P4 hX n n (by omega) _ m.2.1 h.t h.te m (([],[],()),[],0,[],[],([],0,()),()) (m.1.1,m.1.2.1,()) (m.2.2.1,[],m.2.2.2.2.1,(m.2.2.2.2.2.1.1,m.2.2.2.2.2.1.2),()) n 0 (eU _) (by omega)) ?_;simp only[qnt,qoz];refine dF (P3 hX n n (by omega) _ m.2.2.2.1 h.c h.ce (([],[],()),[],0,[],[],([],0,()),()) (m.1.1,m.1.2.1,()) m.2.1 m.2.2.1 (m.2.2.2.2.1,(m.2.2.2.2.2.1.1,m.2.2.2.2.2.1.2),()) n 0 (eU _) (by omega)) ?_;rfl
theorem HC{m:aN}(I:Inv m):B7 m where
 w:=by rw[I.mem.len];omega
 d:=by rw[I.mem.f5];have:=I.n;omega
 de:=fun d hd=>by
  obtain⟨j,hj,rfl⟩:=kR.1 hd;have nA:=I.mem.f5;have e:m.1.2.1[j]=aE m.1 (j:Int):=by unfold aE;rw[dQ,qv hj]
  have D:=I.mem.dI (j:Int) (by omega) (by omega);have h1:=D.len;refine⟨by rw[e];omega,?_⟩;rw[e];have:=D.rl;omega
 t:=by have:=I.n;omega
 te:=fun x hx=>by
  obtain⟨j,hj,rfl⟩:=kR.1 hx;have e:m.2.1[j]=aG m (j:Int):=by unfold aG;rw[dQ,qv hj]
  have T:=I.th (j:Int) (by omega) (by omega);rw[e];have:=T.ops.1;have:=GI hX T;have:=GM hX T
  exact⟨by omega,by omega,by omega⟩
 c:=by have:=IX hX I;omega
 ce:=fun x hx=>by
  obtain⟨j,hj,rfl⟩:=kR.1 hx;have e:m.2.2.2.1[j]=au m.2.2.2.1 (j:Int):=by rw[vG,qv hj]
  rw[e];have:=(I.call.c (j:Int) (by omega) (by omega)).len;omega
 o:=by have h1:=Qj I.call;have h2:=xE m.2.2.2.1 0 m.2.2.2.1.length;have:=IX hX I;omega
 f:=I.first
end
theorem eqW(a b:Int×Int×Int×Unit):pe (Ty.pair (Ty.int IntKind.i64) (Ty.pair (Ty.int IntKind.i64) (Ty.pair (Ty.int IntKind.i64) Ty.unit))) a b=decide (a=b):=by obtain⟨a1,a2,a3,⟨⟩⟩:=a;obtain⟨b1,b2,b3,⟨⟩⟩:=b;by_cases h1:a1=b1<;>by_cases h2:a2=b2<;>by_cases h3:a3=b3<;>simp[pe,h1,h2,h3]
theorem I2{α:Type}{l:List α}{i:Nat}(h:i<l.length)(x d:α):(l.set i x).getD i d=x:=by rw[Ko,aj ⟨rfl,h⟩]
def A7(x:eP):Prop:=x.1.length<=1000/\List.length x.2.2.2.1<=1000/\x.2.2.2.2.1.length<=1000
section
variable {X:Ext} (hX:fR X) {n:Nat}
include hX
theorem aj8(hn:1<=n)(x:eP)(hs:x.2.2.2.2.1≠[])(hl:x.2.2.2.2.1.length<=1000):Fe (DD X n) x=some ((bD x,true,()),()):=by
 obtain⟨n,rfl⟩:∃k,n=k+1:=⟨n-1,by omega⟩
 have h0:0<x.2.2.2.2.1.length:=qS.2 hs;rw[ZY hX];simp only[Fh,OM];rw[qg (by omega),qs (by omega) (by omega),fL (by omega) (by omega),aA,show((x.2.2.2.2.1.length:Int)-1).toNat=x.2.2.2.2.1.length-1 by omega];rfl
theorem G6(hn:3<=n)(x:eP)(hx:A7 x)(h:kU):IT (DD X n) x h=some ((Rs x h,()),()):=by
 obtain⟨n,rfl⟩:∃k,n=k+1:=⟨n-1,by omega⟩
 have hb:=iG;rw[Zp hX];simp only[EV,N_];rw[Ug hX (by omega) x hx.1 hx.2.1 hx.2.2,qc];dsimp only;rw[qf (by have:=hx.2.2;omega)];rfl
theorem G7(hn:3<=n)(x:eP)(hx:A7 x)(hs:x.2.2.2.2.1≠[])(h:kU):R5 (DD X n) x h=some ((IE x h,()),()):=by
 obtain⟨n,rfl⟩:∃k,n=k+1:=⟨n-1,by omega⟩
 have h0:0<x.2.2.2.2.1.length:=qS.2 hs;have h1:=hx.2.2;rw[Zr hX];simp only[EX,Oc];rw[Ug hX (by omega) x hx.1 hx.2.1 hx.2.2,qc];dsimp only;rw[qf (by omega),qs (by omega) (by omega),fL (by omega) (by omega),aA,show((x.2.2.2.2.1.length:Int)-1).toNat=x.2.2.2.2.1.length-1 by omega];rfl
theorem aj7(hn:3<=n)(x:eP)(hx:A7 x)(hs:x.2.2.2.2.1≠[]):Fc (DD X n) x=some ((nP x,()),()):=by
 obtain⟨n,rfl⟩:∃k,n=k+1:=⟨n-1,by omega⟩
 have h0:0<x.2.2.2.2.1.length:=qS.2 hs;have h1:=hx.2.2;rw[ZX hX];simp only[Fg,OL];rw[Ug hX (by omega) x hx.1 hx.2.1 hx.2.2,qc];dsimp only;rw[qf (by omega),qs (by omega) (by omega),show(decide (0<=(x.2.2.2.2.1.length:Int)-1)&&decide ((x.2.2.2.2.1.length:Int)-1<=(x.2.2.2.2.1.length:Int)))=true by simp;omega,aA,show((x.2.2.2.2.1.length:Int)-1).toNat=x.2.2.2.2.1.length-1 by omega];rfl
theorem ajP(hn:1<=n){m:bw}{k:Nat}{time:Int}{own:Int->Prop}(I:fz m k time own){h:kU}(H:cv m k h)(hk:k<=3)(hd:(aE m h.1).1=h.2.1)(hs:(aE m h.1).2.1=1) :
  S0 (DD X n) m h=some (((q7 m h).2.1,(q7 m h).2.2.1,(q7 m h).2.2.2.1,()),((q7 m h).1,())):=by
 obtain⟨n,rfl⟩:∃k,n=k+1:=⟨n-1,by omega⟩
 have hlen:=I.len;have nA:=I.f5;have u0:=H.t.1;have u1:=H.t.2;have eg:=H.v_;rw[ZZ hX];simp only[Fi,ON];have kT:List.getD m.2.1 (Int.toNat h.1) (0,0,[],(0,[],()),())=aE m h.1:=rfl;rw[fL u0 (by omega),aA,kT];unfold q7;rw[af (by omega),aj hs];by_cases ha:((aE m h.1).2.2.1.length:Int)<=h.2.2.1
 .rw[qf ha,aj ha];rfl
 .have oH:=I.iF u0 u1 eg.1 (show h.2.2.1<_ by omega);have he:List.getD (aE m h.1).2.2.1 (Int.toNat h.2.2.1) (0,0,0,())=qi (aE m h.1).2.2.1 h.2.2.1:=rfl;rw[qg ha,af ha,fL eg.1 (by omega),aA,he,fL oH.1.1 (by omega),aA,qs (by omega) (by omega)];have hw:List.getD m.1 (Int.toNat (qi (aE m h.1).2.2.1 h.2.2.1).1) (0,0,0,())=wd m (qi (aE m h.1).2.2.1 h.2.2.1).1:=rfl;rw[hw,eqW,show((0:Int),h.1+1,h.2.1,())=fU h.1 h.2.1 from rfl];by_cases hm:wd m (qi (aE m h.1).2.2.1 h.2.2.1).1=fU h.1 h.2.1
  .rw[qf hm,aj hm,qs (by omega) (by omega)];rfl
  .rw[qg hm,af hm];by_cases ht:(wd m (qi (aE m h.1).2.2.1 h.2.2.1).1).2.1≠0
   .have H6:(wd m (qi (aE m h.1).2.2.1 h.2.2.1).1).2.1<=100/\0<=(wd m (qi (aE m h.1).2.2.1 h.2.2.1).1).2.1:=by
     rcases I.word _ oH.1.1 oH.1.2 with q | ⟨v,v0,v1,vo,vm,_⟩
     .exact absurd q.1 ht
     .rw[vm];simp only[fU];omega
    rw[show((wd m (qi (aE m h.1).2.2.1 h.2.2.1).1).2.1 != 0)=true by rw[bA,bJ ht];rfl,aA,aj ht,qs (by omega) (by omega)]
   .have yZ:(wd m (qi (aE m h.1).2.2.1 h.2.2.1).1).2.1=0:=by omega
    rw[show((wd m (qi (aE m h.1).2.2.1 h.2.2.1).1).2.1 != 0)=false by rw[bA,cT yZ];rfl,aJ,af ht];by_cases ho:(wd m (qi (aE m h.1).2.2.1 h.2.2.1).1).1=(qi (aE m h.1).2.2.1 h.2.2.1).2.1
    .rw[qf ho,aj ho,qs (by omega) (by omega)];rfl
    .rw[qg ho,af ho];rfl
theorem Oy{m:bw}{k:Nat}{time:Int}{own:Int->Prop}(I:fz m k time own)(hk:k<=3):m.1.length<=1000/\m.2.1.length<=1000/\∀d∈m.2.1,d.2.2.1.length<=1000/\d.2.2.2.1.2.1.length<=1000:=by
 refine⟨by rw[I.len];omega,by rw[I.f5];omega,fun d hd=>?_⟩;obtain⟨j,hj,rfl⟩:=kR.1 hd;have nA:=I.f5;have e:m.2.1[j]=aE m (j:Int):=by unfold aE;rw[dQ,qv hj]
 have D:=I.dI (j:Int) (by omega) (by omega);have h1:=D.len;have h2:=D.rl;rw[e];exact⟨by omega,by omega⟩
theorem aav(hn:W+8<=n){m:bw}{k:Nat}{time:Int}{own:Int->Prop}(I:fz m k time own){h:kU}(H:cv m k h)(h1:1<=k)(hk:k<=3)(ht:time<=1000000) :
  XT (DD X n) m h=some (q7 m h,()):=by
 obtain⟨n,rfl⟩:∃k,n=k+1:=⟨n-1,by omega⟩
 have hlen:=I.len;have nA:=I.f5;have u0:=H.t.1;have u1:=H.t.2;have eg:=H.v_;have hfi:=H.fin;have SJ:=H.seq;have hst:=(I.dI h.1 u0 u1).st.2 (by omega);obtain⟨s1,s2,s3⟩:=Oy hX I hk;rw[ahz hX];simp only[X4,Nq];rw[Fw hX (by omega) m s1 s2 s3,qc];dsimp only;rw[show((m.1,m.2.1,()):bw)=m from rfl,xD hX (by omega) I ht h1 (by omega),qc];dsimp only;rw[cE,aJ,qs (by omega) (by omega),lN hX (by omega),qc];dsimp only;have kT:List.getD m.2.1 (Int.toNat h.1) (0,0,[],(0,[],()),())=aE m h.1:=rfl;rw[jM ⟨u0,by omega⟩,cE,aW,qg (by omega),fL u0 (by omega),aA,kT];by_cases hd:(aE m h.1).1=h.2.1
 .rw[show((aE m h.1).1 != h.2.1)=false by rw[bA,cT hd];rfl,aJ,aA,af (by omega),af (by omega)];rw[show((aE m h.1).2.1 != 0)=true by rw[bA,bJ (by omega)];rfl,bg];have hhh:(h.1,h.2.1,h.2.2.1,h.2.2.2.1,())=h:=rfl;by_cases hs:(aE m h.1).2.1=1
  .rw[cT hs,bg,aA,aA,show((h.1,h.2.1,h.2.2.1,h.2.2.2.1,h.2.2.2.2):kU)=h from rfl,ajP hX (by omega) I H hk hd hs,qc]
  .rw[bJ hs,aW,aJ,ai4];have ea:q7 m h=(if ((aE m h.1).2.2.1.length:Int)<=h.2.2.2.1 then (m,h,dH,2,())
    else (if wd m (qi (aE m h.1).2.2.1 h.2.2.2.1).1=fU h.1 h.2.1 then
     setW m (qi (aE m h.1).2.2.1 h.2.2.2.1).1 (if (aE m h.1).2.1=2 then (qi (aE m h.1).2.2.1 h.2.2.2.1).2.2.1 else (qi (aE m h.1).2.2.1 h.2.2.2.1).2.1,0,0,()) else m,(h.1,h.2.1,h.2.2.1,h.2.2.2.1+1,()),dH,0,())):=by
    unfold q7;rw[af (by omega),af hs]
   rw[ea];by_cases hf:((aE m h.1).2.2.1.length:Int)<=h.2.2.2.1
   .rw[aj hf,bJ (show ¬ (aE m h.1).2.1=0 by omega),aW,cT (show h.2.2.2.1>=((aE m h.1).2.2.1.length:Int) from hf),aA];rfl
   .have oH:=I.iF u0 u1 hfi.1 (show h.2.2.2.1<_ by omega);have he:List.getD (aE m h.1).2.2.1 (Int.toNat h.2.2.2.1) (0,0,0,())=qi (aE m h.1).2.2.1 h.2.2.2.1:=rfl;have hw:List.getD m.1 (Int.toNat (qi (aE m h.1).2.2.1 h.2.2.2.1).1) (0,0,0,())=wd m (qi (aE m h.1).2.2.1 h.2.2.2.1).1:=rfl;rw[af hf,bJ (show ¬ (aE m h.1).2.1=0 by omega),aW,bJ (show ¬ h.2.2.2.1>=((aE m h.1).2.2.1.length:Int) by omega),aJ,fL hfi.1 (by omega),aA,he,
     fL oH.1.1 (by omega),aA,hw,eqW,qs (show -9223372036854775808<=h.1+1 by omega) (by omega),show((0:Int),h.1+1,h.2.1,())=fU h.1 h.2.1 from rfl]
    by_cases hm:wd m (qi (aE m h.1).2.2.1 h.2.2.2.1).1=fU h.1 h.2.1
    .rw[qf hm,aj hm,qs (by omega) (by omega),oR,I2 (show(qi (aE m h.1).2.2.1 h.2.2.2.1).1.toNat<m.1.length by omega)];by_cases h2:(aE m h.1).2.1=2
     .rw[qf h2,aj h2];rfl
     .rw[qg h2,af h2];rfl
    .rw[qg hm,af hm,qs (by omega) (by omega)];rfl
 .rw[show((aE m h.1).1 != h.2.1)=true by rw[bA,bJ hd];rfl,aA];have ea:q7 m h=(m,h,dH,2,()):=by unfold q7;rw[aj hd]
  rw[ea];rfl
end
section
variable {X:Ext} (hX:fR X) {n:Nat}
include hX
theorem OA(D:Den ctx)(n:Nat)(K0:Int->aN->Option ((Int×Unit)×aN×Unit))(K1:aN->Option ((Int×Unit)×aN×Unit))(t:Int)(m:aN)(hl:m.2.2.2.1.length<=1000):∀(i c:Nat),i<=m.2.2.2.1.length->i<c->
  ID D n K0 K1 c t ((i:Int)-1) m=if qE m.2.2.2.1 t i<0 then K1 m else K0 (qE m.2.2.2.1 t i) m
 | _,0,_,h2=>by omega
 | 0,c+1,_,_=>by
  simp only[ID,Tq];have qW:qE m.2.2.2.1 t 0 = -1:=rfl;rw[qg (by omega),qW,aj (by omega)]
 | i+1,c+1,h1,h2=>by
  have ih:=OA D n K0 K1 t m hl i c (by omega) (by omega);simp only[ID,Tq];have qW:qE m.2.2.2.1 t (i+1)=if (m.2.2.2.1.getD i dC).1=t/\(m.2.2.2.1.getD i dC).2.2.2.2.1<0 then (i:Int) else qE m.2.2.2.1 t i:=rfl
  have e:(((i+1:Nat):Int)-1)=(i:Int):=by omega
  have hd:m.2.2.2.1.getD i (0,(0,0,0,()),0,0,0,(0,[],()),())=m.2.2.2.1.getD i dC:=rfl;rw[e,qf (by omega),ix (by omega),aA,dQ,hd,qs (by omega) (by omega)];by_cases a:(m.2.2.2.1.getD i dC).1=t
  .rw[qf a,aA];by_cases b:(m.2.2.2.1.getD i dC).2.2.2.2.1<0
   .rw[aj ⟨a,b⟩]at qW;rw[qf b,qW,af (by omega)]
   .rw[af (fun q=>b q.2)]at qW;rw[qg b,qW];exact ih
  .rw[af (fun q=>a q.1)]at qW;rw[qg a,qW];exact ih
theorem FI(l:List d8)(t:Int):∀i,-1<=qE l t i/\qE l t i<i
 | 0=>by simp[qE]
 | i+1=>by
  have:=FI l t i;simp only[qE];split<;>omega
theorem Ou(hn:W+1<=n)(m:aN)(t:Int)(hl:m.2.2.2.1.length<=1000):Tt (DD X n) m t=some ((j3 m.2.2.2.1 t,()),(m,())):=by
 obtain⟨n,rfl⟩:∃k,n=k+1:=⟨n-1,by omega⟩
 have hW:=d7;rw[abS hX];simp only[qlm,qln,qkk];rw[qs (by omega) (by omega)];refine dF (OA hX (DD X n) n _ _ t m hl m.2.2.2.1.length n (b7 _) (by omega)) ?_;have:=FI (X:=X) hX m.2.2.2.1 t m.2.2.2.1.length;unfold j3;by_cases h:qE m.2.2.2.1 t m.2.2.2.1.length<0
 .rw[aj h,show qE m.2.2.2.1 t m.2.2.2.1.length = -1 by omega];rfl
 .rw[af h];rfl
theorem PA(l:List d8)(t:Int) : -1<=j3 l t/\j3 l t<l.length:=FI (X:=X) hX l t _
theorem Jb(hn:W+2<=n)(m:aN)(t:Int)(r:fF)(hl:m.2.2.2.1.length<=1000)(ho:m.2.2.2.2.1.length<=1000)(hr:r.2.1.length<=1000):Q8 (DD X n) m t r=some ((),(jP m t r,())):=by
 obtain⟨n,rfl⟩:∃k,n=k+1:=⟨n-1,by omega⟩
 have hW:=d7;have hb:=iG;have VP:=PA hX m.2.2.2.1 t;rw[adQ hX];simp only[qt5,q6g];rw[Ou hX (by omega) m t hl,qc];dsimp only;unfold jP;by_cases h:j3 m.2.2.2.1 t<0
 .rw[qf h,aj h]
 .rw[qg h,af h,fL (by omega) (by omega),aA,Im hX (by omega) r (by omega),qc];dsimp only;rw[ck,fL (by omega) (by omega),aA,qf (by omega),oR,I2 (show(j3 m.2.2.2.1 t).toNat<m.2.2.2.1.length by omega)];rfl
theorem Mt(hn:W+2<=n)(m:aN)(t:Int)(r:fF)(t0:0<=t)(t1:t<m.2.1.length)(hl:m.2.2.2.1.length<=1000)(hr:r.2.1.length<=1000)(hp:0<=(aG m t).2.1/\(aG m t).2.1<=1000)(ho:0<=j3 m.2.2.2.1 t) :
  Q_ (DD X n) m t r=some ((),(ez m t r,())):=by
 obtain⟨n,rfl⟩:∃k,n=k+1:=⟨n-1,by omega⟩
 have hW:=d7;have VP:=PA hX m.2.2.2.1 t;rw[ac4 hX];simp only[qrv,qsf];rw[Ou hX (by omega) m t hl,qc];dsimp only;rw[qf (by omega),fL (by omega) (by omega),aA,Im hX (by omega) r (by omega),qc];dsimp only;rw[ck,fL (by omega) (by omega),aA,oR,I2 (show(j3 m.2.2.2.1 t).toNat<m.2.2.2.1.length by omega)];dsimp only;simp only[qqt,q0b];have ht:t.toNat<m.2.1.length:=by omega
 have hx:m.2.1.getD t.toNat ([],0,false,[],[],())=aG m t:=rfl;rw[fL t0 t1,aA];simp only[oR,I2 ht,hx,ck];rw[qs (by omega) (by omega)];unfold ez kY;rw[af (by omega)];rfl
theorem aat(hn:1<=n)(w:lQ)(t:Int)(h0:0<=t/\t<=100)(h:w.2.1≠t+1):gl ctx (DD X n) (aZ.mk 177 [bt.bZ (Ty.int IntKind.i64) t]) [bt.val Bh w] Ty.bool=some false:=by
 obtain⟨n,rfl⟩:∃k,n=k+1:=⟨n-1,by omega⟩
 have e:∀D:Den ctx,gl ctx D (aZ.mk 177 [bt.bZ (Ty.int IntKind.i64) t]) [bt.val Bh w] Ty.bool=(MQ D w t).bind fun r=>some r.1.1:=fun D=>by kernel_rfl
 rw[e,agn hX];simp only[WU,M8];rw[qs (by omega) (by omega),bJ h];rfl
theorem ai6(hn:W+8<=n){m:bw}{k:Nat}{time:Int}{own lq:Int->Prop}(I:fz m k time own)(h1:1<=k)(hk:k<=3)(ht:time<=1000000){t:Int}(t0:0<=t)(t1:t<k)(hno:¬ own t){E:List eB}{r:fF}(hE:E.length<=1000)(hr:r.2.1.length<=1000)
  (I':fz (cr m t ((aE m t).1+1,1,E,r,())) k time lq):Uh (DD X n) m t E r=some ((cr m t ((aE m t).1+1,1,E,r,()),(t,(aE m t).1+1,0,0,()),true,()),()):=by
 obtain⟨n,rfl⟩:∃k,n=k+1:=⟨n-1,by omega⟩
 have hW:=d7;have hlen:=I.len;have nA:=I.f5;have SJ:=(I.dI t t0 t1).seq;obtain⟨s1,s2,s3⟩:=Oy hX I hk;rw[aiq hX];simp only[YB,NA];rw[Fw hX (by omega) m s1 s2 s3,qc];dsimp only;rw[xD hX (by omega) I ht h1 (by omega),qc];dsimp only;rw[cE,aJ,qs (by omega) (by omega),lN hX (by omega),qc];dsimp only;rw[jM ⟨t0,by omega⟩,cE,aJ,agN hX (by omega) (by omega) (f:=fun _=>false) (fun w hw=>aat hX (by omega) w t (by omega) (by
  obtain⟨j,hj,rfl⟩:=kR.1 hw;have e:m.1[j]=wd m (j:Int):=by unfold wd;rw[dQ,qv hj]
  rw[e];rcases I.word (j:Int) (by omega) (by omega) with q | ⟨v,v0,v1,vo,vm,_⟩
  .have:=q.1;omega
  .rw[vm];simp only[fU];intro q;exact hno (by rw[show t=v by omega];exact vo))),qc]
 dsimp only;have kT:List.getD m.2.1 (Int.toNat t) (0,0,[],(0,[],()),())=aE m t:=rfl;rw[zw hX,aJ,fL t0 (by omega),aA,qc];dsimp only;rw[qm4 hX (by omega) E (by omega),qc,Im hX (by omega) r (by omega),qc];dsimp only;rw[fL t0 (by omega),aA,kT,qs (by omega) (by omega)];have hm:=xD hX (n:=n) (by omega) I' ht h1 (by omega);rw[show((m.1,m.2.1.set t.toNat ((aE m t).1+1,1,E,(r.1,r.2.1,()),()),()):bw)=cr m t ((aE m t).1+1,1,E,r,()) from rfl,hm,qc];dsimp only;rw[cE,aJ]
end
theorem Z4{m:bw}{h:kU}(e:(q7 m h).2.2.2.1=2):(q7 m h).1=m:=by
 unfold q7 at e⊢
 repeat' split at e
 all_goals first
  | rfl
  | (exfalso;revert e;decide)
  | skip
 all_goals simp_all
theorem Z5{m:bw}{h:kU}(e:(q7 m h).2.2.2.1=3):(q7 m h).1=cr m h.1 ((aE m h.1).1,2,(aE m h.1).2.2):=by
 unfold q7 at e⊢
 repeat' split at e
 all_goals first
  | (exfalso;revert e;decide)
  | skip
 all_goals simp_all
theorem P5{m:aN}{t:Int}{x:eP}(t0:0<=t)(t1:t<m.2.1.length)(r:fF)(h1:x.1=(aG m t).1)(h2:x.2.1=(aG m t).2.1):ez (cO m t x) t r=ez m t r:=by
 have hx:aG (cO m t x) t=x:=by rw[tw ⟨t0,t1⟩ t0,aj rfl]
 unfold ez;rw[hx,h1,h2];unfold kY;rw[show(cO m t x).2.2.2.1=m.2.2.2.1 from rfl];by_cases h:j3 m.2.2.2.1 t<0
 .rw[aj h,aj h];unfold cO;dsimp only;rw[oR]
 .rw[af h,af h];unfold cO;dsimp only;rw[oR];rfl
section
variable {X:Ext} (hX:fR X) {n:Nat}
include hX
theorem PW{m:bw}{k:Nat}{x:eP}{t:Int}(T:j5 m k x t):A7 x:=by
 have:=T.ops.1;have:=GI hX T;have:=GM hX T
 exact⟨by omega,by omega,by omega⟩
theorem aak(hn:W+10<=n){m:aN}(I:Inv m){t:Int}(t0:0<=t)(t1:t<m.2.1.length)(hs:(aG m t).2.2.2.2.1≠[])(HY:m.2.2.1<=1000000):qng (DD X n) m t=some ((),(sk m t,())):=by
 obtain⟨n,rfl⟩:∃k,n=k+1:=⟨n-1,by omega⟩
 have hW:=d7;have T:=I.th t t0 t1;have ho:=T.DG hs;have hsh:=PW hX T;have H:=T.jI _ (S_ hs);have VE:=I.n;have nA:=I.mem.f5;have ht:t.toNat<m.2.1.length:=by omega
 have hx:m.2.1.getD t.toNat ([],0,false,[],[],())=aG m t:=rfl;obtain⟨k,hk,_⟩:=I.call.l_ t t0 t1 ho;have hoc:=I.call.m4 hk;have SE:=hk.dL;have ji:=IX hX I;have zU:=(HC hX I).o;have Cm:=T.pc;have hop:=T.ops.1;have u0:=H.t.1;have u1:=H.t.2;have hrl:=(I.mem.dI _ u0 u1).rl;rw[ab6 hX];simp only[qni,qw8,hx,ck,oR,I2 ht];rw[fL t0 t1,aA,aj8 hX (by omega) (aG m t) hs (by have:=hsh.2.2;omega),qc];dsimp only;rw[show((m.1.1,m.1.2.1,()):bw)=m.1 from rfl,aav hX (by omega) I.mem H (by omega) (by omega) HY,qc];dsimp only;unfold sk;by_cases c1:(q7 m.1 (bD (aG m t))).2.2.2.1=1
 .rw[qf c1,aj c1];by_cases hc:(bD (aG m t)).1=t/\(aG m t).2.2.2.2.1.length=1
  .rw[aj hc,cT hc.1,bg,qf (by omega),G6 hX (by omega) _ hsh,qc];dsimp only;rw[aA];rfl
  .rw[af hc];have e:(bif decide ((bD (aG m t)).1=t) then decide (((aG m t).2.2.2.2.1.length:Int)=1) else false)=false:=by
    by_cases a:(bD (aG m t)).1=t
    .rw[cT a,bg,bJ (fun q=>hc ⟨a,by omega⟩)]
    .rw[bJ a];rfl
   rw[e,aJ,G7 hX (by omega) _ hsh hs,qc];dsimp only;rw[aA];rfl
 rw[qg c1,af c1];by_cases c2:(q7 m.1 (bD (aG m t))).2.2.2.1=2
 .rw[qf c2,aj c2,aj7 hX (by omega) _ hsh hs,qc];dsimp only;rw[aA,Z4 c2];by_cases hne:(bD (aG m t)).1≠t
  .rw[show((bD (aG m t)).1 != t)=true by rw[bA,bJ hne];rfl,aA,aj hne];rfl
  .have he:(bD (aG m t)).1=t:=by omega
   have hd:m.1.2.1.getD t.toNat (0,0,[],(0,[],()),())=aE m.1 t:=rfl;rw[show((bD (aG m t)).1 != t)=false by rw[bA,cT he];rfl,aJ,af hne,aA,fL t0 (by omega),aA,hd];by_cases hy:(aE m.1 t).2.1=2
   .rw[qf hy,aj hy];have hE:=Mt hX (n:=n) (by omega) (cO m t ((nP (aG m t)).1,(nP (aG m t)).2.1,(nP (aG m t)).2.2.1,(nP (aG m t)).2.2.2.1,[],())) t (aE m.1 t).2.2.2.1 t0 (by rw[sn];exact t1) (by show m.2.2.2.1.length<=1000;omega) (by rw[he]at hrl;omega)
     (by rw[tw ⟨t0,t1⟩ t0,aj rfl];show 0<=(aG m t).2.1/\(aG m t).2.1<=1000;omega) (by show 0<=j3 m.2.2.2.1 t;omega)
    rw[P5 (x:=((nP (aG m t)).1,(nP (aG m t)).2.1,(nP (aG m t)).2.2.1,(nP (aG m t)).2.2.2.1,[],())) t0 t1 _ rfl rfl]at hE;refine dF (eM (fun z=>qd z _) hE) ?_;rw[qc];rfl
   .rw[qg hy,af hy,aA];rfl
 rw[qg c2,af c2];by_cases c3:(q7 m.1 (bD (aG m t))).2.2.2.1=3
 .rw[qf c3,aj c3,Z5 c3];have iw:(cr m.1 (bD (aG m t)).1 ((aE m.1 (bD (aG m t)).1).1,2,(aE m.1 (bD (aG m t)).1).2.2)).2.1.length=m.1.2.1.length:=F6 _ _ _;have hd:List.getD (cr m.1 (bD (aG m t)).1 ((aE m.1 (bD (aG m t)).1).1,2,(aE m.1 (bD (aG m t)).1).2.2)).2.1 (bD (aG m t)).1.toNat (0,0,[],(0,[],()),())=((aE m.1 (bD (aG m t)).1).1,2,(aE m.1 (bD (aG m t)).1).2.2):=by have:=IC (m:=m.1) (u:=(bD (aG m t)).1) (t:=(bD (aG m t)).1) (d:=((aE m.1 (bD (aG m t)).1).1,2,(aE m.1 (bD (aG m t)).1).2.2)) (by omega) u0;rw[aj rfl]at this;exact this
  rw[iw,fL u0 (by omega),aA,hd];have hS:=Jb hX (n:=n) (by omega) (dj m (cr m.1 (bD (aG m t)).1 ((aE m.1 (bD (aG m t)).1).1,2,(aE m.1 (bD (aG m t)).1).2.2))) (bD (aG m t)).1 (aE m.1 (bD (aG m t)).1).2.2.2.1 (by show m.2.2.2.1.length<=1000;omega) zU (by omega);refine dF (eM (fun z=>qd z _) hS) ?_;rw[qc];dsimp only;rw[G7 hX (by omega) _ hsh hs,qc];dsimp only;have e2:(jP (dj m (cr m.1 (bD (aG m t)).1 ((aE m.1 (bD (aG m t)).1).1,2,(aE m.1 (bD (aG m t)).1).2.2))) (bD (aG m t)).1 (aE m.1 (bD (aG m t)).1).2.2.2.1).2.1=m.2.1:=by unfold jP;split<;>rfl
  rw[e2,fL t0 t1,aA,<-e2];rfl
 rw[qg c3,af c3,G7 hX (by omega) _ hsh hs,qc];dsimp only;rw[aA];rfl
end
theorem Gz(m:aN)(t u:Int)(x:eP)(r:fF):jP (cO m t x) u r=cO (jP m u r) t x:=by
 unfold jP;rw[show(cO m t x).2.2.2.1=m.2.2.2.1 from rfl];by_cases h:j3 m.2.2.2.1 u<0
 .rw[aj h,aj h]
 .rw[af h,af h];rfl
theorem xL(m:aN)(u:Int)(r:fF):(jP m u r).2.1=m.2.1:=by unfold jP;split<;>rfl
section
variable {X:Ext} (hX:fR X) {n:Nat}
include hX
theorem ajZ(hn:W+15<=n){m:aN}(I:Inv m){t:Int}(t0:0<=t)(t1:t<m.2.1.length)(ho:(aG m t).2.2.1=true)(hs:(aG m t).2.2.2.2.1=[])(ud:(aE m.1 t).1+1<=m.2.2.1)(HY:m.2.2.1<=1000000) :
  qqa (DD X n) m t=some ((true,()),(Hw m t,())):=by
 obtain⟨n,rfl⟩:∃k,n=k+1:=⟨n-1,by omega⟩
 have hW:=d7;have hb:=iG;have IR:=Qz I t0 t1 ho hs ud;have T:=I.th t t0 t1;have hop:=T.op ho;have hsh:=PW hX T;have kg:=Rz (t:=t) hs;have hno:¬ ga m t:=by unfold ga;rw[kg];simp
 obtain⟨q,B,hq⟩:=T.read ho kg;have sR:=T.along ho;obtain⟨JS,yY⟩:=R9 hop T.got sR;have vt:D7 (aG m t)=q/\(0<=q/\q<20)/\q∉gW (aG m t).2.2.2.1/\List.length (aG m t).2.2.2.1<8:=by
  rcases yY with h | ⟨q',B',h,h2,h3,h4,h5⟩
  .rw[hq]at h;have:=eM List.length h.1;simp at this
  .rw[hq]at h;have:=QS h;simp only[eL]at this;obtain⟨rfl,_⟩:=this;exact⟨h2,h3,h4,h5⟩
 obtain⟨vt,yX,hqn,hlen⟩:=vt;have VE:=I.n;have hwl:=I.mem.len;have nA:=I.mem.f5;have ht:t.toNat<m.2.1.length:=by omega
 have hx:m.2.1.getD t.toNat ([],0,false,[],[],())=aG m t:=rfl;have VI:List.getD (aG m t).1 (Int.toNat (aG m t).2.1) (0,0,0,())=aY (aG m t):=rfl;have Cm:=T.pc;have pK:=T.on ho;have aku:=T.ops.1;obtain⟨k,hk,_⟩:=I.call.l_ t t0 t1 ho;have hoc:=I.call.m4 hk;have SE:=hk.dL;have ji:=IX hX I;have zU:=(HC hX I).o;rw[acL hX];simp only[qqg,q0c,hx,ck,oR,I2 ht,VI];rw[fL t0 t1,aA,fL Cm.1 pK,aA,Zx hX (by omega) (by omega),qc];dsimp only;have hnp:Bs (aY (aG m t)) (aG m t).2.2.2.1=q:=by unfold Bs;rw[aj hop];exact vt
 have m3:m.1.1.getD q.toNat (0,0,0,())=wd m.1 q:=rfl;rw[hnp,qf yX.1,fL yX.1 (by omega),aA,m3];have Vj:lY m (aG m t)=(aG m t).2.2.2.1++[(q,(wd m.1 q).1,())]:=by unfold lY;rw[vt]
 unfold Hw at IR⊢;rw[vt,Vj]at IR⊢;by_cases hw:(wd m.1 q).2.1≠0
 .rw[aj hw];have H6:(wd m.1 q).2.1<=100/\0<=(wd m.1 q).2.1:=by
   rcases I.mem.word q yX.1 yX.2 with z | ⟨v,v0,v1,vo,vm,_⟩
   .exact absurd z.1 hw
   .rw[vm];simp only[fU];omega
  rw[show((wd m.1 q).2.1 != 0)=true by rw[bA,bJ hw];rfl,aA,qs (by omega) (by omega)];rw[show(((aG m t).1,(aG m t).2.1,(aG m t).2.2.1,(aG m t).2.2.2.1,(aG m t).2.2.2.2):eP)=aG m t from rfl,G6 hX (by omega) _ hsh,qc];rfl
 have hw0:(wd m.1 q).2.1=0:=by omega
 rw[af hw]at IR⊢;rw[show((wd m.1 q).2.1 != 0)=false by rw[bA,cT hw0];rfl,aJ,qf (by omega)];have hgl:List.length ((aG m t).2.2.2.1++[(q,(wd m.1 q).1,())])<=1000:=by rw[cw,o3];omega
 rw[aiE hX (by omega) (by omega),qc];dsimp only;generalize hg':(aG m t).2.2.2.1++[(q,(wd m.1 q).1,())]=fB at *;have wV:(m.1,m.2.1.set t.toNat ((aG m t).1,(aG m t).2.1,(aG m t).2.2.1,fB,(aG m t).2.2.2.2),m.2.2)=cO m t (vI (aG m t) fB):=rfl;by_cases hpf:(g7 (aY (aG m t)) fB).2.1=false
 .rw[aj hpf,hpf,gf,aA,wV]
 .rw[af hpf]at IR⊢;rw[show(g7 (aY (aG m t)) fB).2.1=true by simpa using hpf,cE,aJ];have hrl:=aay (aY (aG m t)) fB;by_cases dJ:(g7 (aY (aG m t)) fB).1.1=true
  .rw[aj dJ,dJ,aA,wV];have hS:=Jb hX (n:=n) (by omega) (cO m t (vI (aG m t) fB)) t (g7 (aY (aG m t)) fB).1.2.1 (by show m.2.2.2.1.length<=1000;omega) zU (by omega);refine dF (eM (fun z=>qd z _) hS) ?_;rw[qc];dsimp only;have e1:(jP (cO m t (vI (aG m t) fB)) t (g7 (aY (aG m t)) fB).1.2.1).2.1.length=m.2.1.length:=by rw[xL,sn]
   have hJ:aG (jP m t (g7 (aY (aG m t)) fB).1.2.1) t=aG m t:=Rk (xL _ _ _) t;have SI:jP m t (g7 (aY (aG m t)) fB).1.2.1=(m.1,m.2.1,m.2.2.1,m.2.2.2.1.set k.toNat ((au m.2.2.2.1 k).1,(au m.2.2.2.1 k).2.1,(au m.2.2.2.1 k).2.2.1,m.2.2.1,(au m.2.2.2.1 k).2.2.2.2.1,(g7 (aY (aG m t)) fB).1.2.1,()),m.2.2.2.2.1++[k],m.2.2.2.2.2):=by unfold jP;rw[hoc,af (by omega)];rfl
   have Ju:(jP (cO m t (vI (aG m t) fB)) t (g7 (aY (aG m t)) fB).1.2.1).2.2.2.1=(jP m t (g7 (aY (aG m t)) fB).1.2.1).2.2.2.1:=by rw[Gz];rfl
   have VH:0<=j3 (jP m t (g7 (aY (aG m t)) fB).1.2.1).2.2.2.1 t:=by
    have SM:mJ m t=none:=by unfold mJ;rw[af (fun z=>by rw[kg]at z;cases z.1)]
    have gN:(g7 (aY (aG m t)) fB).1.2.1.2.1.length<=20:=hrl.1
    -- zu call is open still
    have gk:au (m.2.2.2.1.set k.toNat ((au m.2.2.2.1 k).1,(au m.2.2.2.1 k).2.1,(au m.2.2.2.1 k).2.2.1,m.2.2.1,(au m.2.2.2.1 k).2.2.2.2.1,(g7 (aY (aG m t)) fB).1.2.1,())) k=((au m.2.2.2.1 k).1,(au m.2.2.2.1 k).2.1,(au m.2.2.2.1 k).2.2.1,m.2.2.1,(au m.2.2.2.1 k).2.2.2.2.1,(g7 (aY (aG m t)) fB).1.2.1,()):=by rw[CU hk.dL hk.dL.1,aj rfl]
    have key:∀(l:List d8)(j:Int),0<=j->j<l.length->(au l j).1=t->(au l j).2.2.2.2.1<0->∀i:Nat,j<i->0<=qE l t i:=by
     intro l j j0 j1 h1 h2 i
     induction i with
     | zero=>intro h;omega
     | succ i ih=>
      intro h;simp only[qE];split
      .omega
      .next hc=>
       refine ih ?_;by_cases e:j=(i:Int)
       .exfalso;refine hc ?_;rw[e]at h1 h2;rw[vG]at h1 h2;exact⟨h1,h2⟩
       .omega
    rw[SI];dsimp only;unfold j3;refine key _ k SE.1 (by rw[ck];exact SE.2) ?_ ?_ _ (by rw[ck];exact SE.2)
    .rw[gk];exact hk.t
    .rw[gk];dsimp only;have:=hk.fin;omega
   have hE:=Mt hX (n:=n) (by omega) (jP (cO m t (vI (aG m t) fB)) t (g7 (aY (aG m t)) fB).1.2.1) t (g7 (aY (aG m t)) fB).1.2.1 t0 (by rw[e1];exact t1)
    (by rw[Ju,SI];dsimp only;rw[ck];omega) (by omega) (by
     rw[Gz,tw (by rw[xL];exact⟨t0,t1⟩) t0,aj rfl];show 0<=(aG m t).2.1/\(aG m t).2.1<=1000;omega) (by rw[Ju];exact VH)
   refine dF (eM (fun z=>qd z _) hE) ?_;rw[qc];dsimp only;have:=P5 (m:=jP m t (g7 (aY (aG m t)) fB).1.2.1) (t:=t) (x:=vI (aG m t) fB) t0 (by rw[xL];exact t1) (g7 (aY (aG m t)) fB).1.2.1 (by rw[hJ];rfl) (by rw[hJ];rfl);rw[Gz,this]
  .rw[af dJ]at IR⊢;rw[show(g7 (aY (aG m t)) fB).1.1=false by simpa using dJ,aJ];have hB:=ai6 hX (n:=n) (by omega) I.mem (by omega) (by omega) HY t0 t1 hno (E:=(g7 (aY (aG m t)) fB).1.2.2.1) (r:=(g7 (aY (aG m t)) fB).1.2.1) (by omega) (by omega) (by
    have:=IR.mem;rw[sn]at this;exact this)
   refine dF (eM (fun z=>qd z _) hB) ?_;rw[qc];dsimp only;rw[aA];have hP:=G6 hX (n:=n) (by omega) (vI (aG m t) fB) ⟨hsh.1,hgl,hsh.2.2⟩ (t,(aE m.1 t).1+1,0,0,());refine dF (eM (fun z=>qd z _) hP) ?_;rw[qc];rfl
theorem PV{m:aN}{t:Int}:(BP m t).2.2.1=m.2.2.1+1:=by
 have hs:∀(m:aN)(u:Int)(r:fF),(jP m u r).2.2.1=m.2.2.1:=fun m u r=>by unfold jP;split<;>rfl
 have he:∀(m:aN)(u:Int)(r:fF),(ez m u r).2.2.1=m.2.2.1:=fun m u r=>by unfold ez kY;split<;>rfl
 unfold BP;split
 .rfl
 .split
  .unfold sk;split
   .split<;>rfl
   .split
    .split
     .rfl
     .split
      .rw[he];rfl
      .rfl
    .split
     .show(jP _ _ _).2.2.1=_;rw[hs];rfl
     .rfl
  .unfold Hw;split
   .rfl
   .split
    .rfl
    .split
     .rw[he,hs];rfl
     .rfl
theorem ZM(hn:W+17<=n){m:aN}(I:Inv m){t:Int}(t0:0<=t)(t1:t<m.2.1.length)(ht:m.2.2.1<=100000)(hd:(aG m t).2.1=(aG m t).1.length):RI (DD X n) m t=some ((m,false,()),()):=by
 obtain⟨n,rfl⟩:∃k,n=k+2:=⟨n-2,by omega⟩
 have VE:=I.n;have hx:m.2.1.getD t.toNat ([],0,false,[],[],())=aG m t:=rfl;rw[NW hX];simp only[SV,EJ,hx];rw[Ry hX (by omega) I ht,qc];dsimp only;rw[cE,aJ,qs (by omega) (by omega),lN hX (by omega),qc];dsimp only;rw[jM ⟨t0,by omega⟩,cE,aJ,fL t0 t1,aA,qub hX];simp only[TF,qun];rw[qc];dsimp only;rw[cT hd,bg,aA,qvp hX (by omega) (HC hX I),qc]
theorem ajY(hn:W+17<=n){m:aN}(I:Inv m){t:Int}(t0:0<=t)(t1:t<m.2.1.length)(ht:m.2.2.1<100000)(hd:(aG m t).2.1<(aG m t).1.length):RI (DD X n) m t=some ((BP m t,true,()),()):=by
 obtain⟨n,rfl⟩:∃k,n=k+2:=⟨n-2,by omega⟩
 have hW:=d7;have hb:=iG;have VE:=I.n;have hti:=I.time;have hx:m.2.1.getD t.toNat ([],0,false,[],[],())=aG m t:=rfl;have IS:=QA I t0 t1 hd;have hts:=PV hX (m:=m) (t:=t);have hok:=Ry hX (n:=n+1) (by omega) IS (by omega);have ji:=IX hX I;have T:=I.th t t0 t1;have Cm:=T.pc;rw[NW hX];simp only[SV,EJ,hx];rw[Ry hX (by omega) I (by omega),qc];dsimp only;rw[cE,aJ,qs (show -9223372036854775808<=(m.2.1.length:Int)-1 by omega) (by omega),lN hX (by omega),qc];dsimp only;rw[jM ⟨t0,by omega⟩,cE,aJ,fL t0 t1,aA,qub hX];simp only[TF,qun];rw[qc];dsimp only;rw[bJ (show ¬ (aG m t).2.1=(aG m t).1.length by omega),aW,bJ (show ¬ m.2.2.1=100000 by omega),aJ,qvp hX (by omega) (HC hX I),qc];dsimp only;rw[fL t0 t1,aA,hx,qs (show -9223372036854775808<=m.2.2.1+1 by omega) (by omega)];unfold BP at hok⊢;by_cases h1:(aG m t).2.2.1=false
 .rw[aj h1]at hok⊢;rw[h1,gf,aA,fL Cm.1 hd,aA,qf (by omega)];refine dF (eM (fun z=>qd z _) hok) ?_;rw[qc];dsimp only;rw[cE,aJ];rfl
 rw[af h1]at hok⊢;have UJ:(aG m t).2.2.1=true:=by simpa using h1
 rw[UJ,cE,aJ];by_cases h2:(aG m t).2.2.2.2.1≠[]
 .have hlp:0<(aG m t).2.2.2.2.1.length:=qS.2 h2;rw[aj h2]at hok⊢;rw[qf (by omega)];have hA:=aak hX (n:=n+1) (by omega) (Ud I) t0 t1 h2 (by show m.2.2.1+1<=1000000;omega);refine dF (eM (fun z=>qd z _) hA) ?_;rw[qc];dsimp only;refine dF (eM (fun z=>qd z _) hok) ?_;rw[qc];dsimp only;rw[cE,aJ]
 .have vk:(aG m t).2.2.2.2.1=[]:=by simpa using h2
  rw[af h2]at hok⊢;rw[qg (by rw[vk];simp)];have hA:=ajZ hX (n:=n+1) (by omega) (Ud I) t0 t1 UJ vk (by
   have:=(I.mem.dI t t0 t1).seq.2;show(aE m.1 t).1+1<=m.2.2.1+1;omega) (by show m.2.2.1+1<=1000000;omega)
  refine dF (eM (fun z=>qd z _) hA) ?_;rw[qc];dsimp only;rw[cE,aJ];refine dF (eM (fun z=>qd z _) hok) ?_;rw[qc];dsimp only;rw[cE,aJ]
end
def sP(m:aN)(t:Int):aN:=if (aG m t).2.1<(aG m t).1.length then BP m t else m
def uZ(m:aN)(who:List Int):aN:=who.foldl sP m
theorem abJ(m:aN)(t:Int):(BP m t).2.1.length=m.2.1.length:=by
 have hs:∀(m:aN)(u:Int)(r:fF),(jP m u r).2.1=m.2.1:=xL;have he:∀(m:aN)(u:Int)(r:fF),(ez m u r).2.1.length=m.2.1.length:=fun m u r=>by
  unfold ez;rw[sn];unfold kY;split<;>rfl
 unfold BP;split
 .unfold rK;rw[sn];rfl
 .split
  .unfold sk;split
   .split<;>(rw[sn];rfl)
   .split
    .split
     .rw[sn];rfl
     .split
      .rw[he];rfl
      .rw[sn];rfl
    .split
     .rw[sn,hs];rfl
     .rw[sn];rfl
  .unfold Hw;split
   .rw[sn];rfl
   .split
    .rw[sn];rfl
    .split
     .rw[he,hs];rfl
     .rw[sn];rfl
theorem YY(m:aN)(t:Int):(sP m t).2.1.length=m.2.1.length:=by
 unfold sP;split
 .exact abJ m t
 .rfl
theorem abD(who:List Int):∀m:aN,(uZ m who).2.1.length=m.2.1.length:=by
 induction who with
 | nil=>intro m;rfl
 | cons t who ih=>intro m;show(uZ (sP m t) who).2.1.length=_;rw[ih,YY]
theorem NN{m:aN}(I:Inv m){t:Int}(t0:0<=t)(t1:t<m.2.1.length):Inv (sP m t):=by
 unfold sP;split
 .next h=>exact QA I t0 t1 h
 .exact I
section
variable {X:Ext} (hX:fR X) {n:Nat}
include hX
theorem NT(m:aN)(t:Int):m.2.2.1<=(sP m t).2.2.1/\(sP m t).2.2.1<=m.2.2.1+1:=by
 unfold sP;split
 .rw[PV hX];omega
 .omega
theorem Uz(hn:W+17<=n){m:aN}(I:Inv m){t:Int}(t0:0<=t)(t1:t<m.2.1.length)(ht:m.2.2.1<100000):RI (DD X n) m t=some ((sP m t,decide ((aG m t).2.1<(aG m t).1.length),()),()):=by
 unfold sP;by_cases h:(aG m t).2.1<(aG m t).1.length
 .rw[aj h,cT h];exact ajY hX hn I t0 t1 ht h
 .rw[af h,bJ h];have:=(I.th t t0 t1).pc;exact ZM hX hn I t0 t1 (by omega) (by omega)
theorem abc(who:List Int):∀{m:aN},Inv m->(∀t∈who,0<=t/\t<m.2.1.length)->Inv (uZ m who)/\(uZ m who).2.2.1<=m.2.2.1+who.length/\m.2.2.1<=(uZ m who).2.2.1:=by
 induction who with
 | nil=>intro m I _;exact⟨I,by show m.2.2.1<=_;simp,vA _⟩
 | cons t who ih=>
  intro m I h;have ht:=h t bO;have hg:=NT hX m t;have:=ih (NN I ht.1 ht.2) (fun u hu=>by rw[YY];exact h u (cD _ hu));refine⟨this.1,?_,?_⟩
  .show(uZ (sP m t) who).2.2.1<=_;rw[ct];have:=this.2.1;omega
  .show _<=(uZ (sP m t) who).2.2.1;have:=this.2.2;omega
theorem LY(N n:Nat)(hN:W+17<=N)(K:aN->aN->Option ((aN×Unit)×Unit))(who:List Int)(hl:who.length<=2000)(z:aN):∀(c i:Nat)(m:aN),i<=who.length->who.length-i<c->Inv m->(∀t∈who,0<=t/\t<m.2.1.length)->m.2.2.1+(who.length-i:Nat)<=100000->
  RW (DD X N) n K c who (who.length:Int) (i:Int) m z=K (uZ m (who.drop i)) z
 | 0,i,_,_,h2,_,_,_=>by omega
 | c+1,i,m,h1,h2,I,hw,ht=>by
  simp only[RW,YL];by_cases hi:i<who.length
  .have hr:=hw _ (ef hi);have hg:=NT hX m who[i];have ih:=LY N n hN K who hl z c (i+1) (sP m who[i]) (by omega) (by omega) (NN I hr.1 hr.2) (fun t h=>by rw[YY];exact hw t h) (by omega);rw[qf (by omega),ix hi,aA,dQ,qv hi,qu (by omega),Uz hX (by omega) I hr.1 hr.2 (by omega),qc];dsimp only;rw[ih,rf hi];rfl
  .rw[qg (by omega),rm hi];rfl
theorem ajV(hn:W+18<=n){m:aN}(I:Inv m)(who:List Int)(hl:who.length<=2000)(hw:∀t∈who,0<=t/\t<m.2.1.length)(ht:m.2.2.1+who.length<=100000):ER (DD X n) m who=some ((uZ m who,()),()):=by
 obtain⟨n,rfl⟩:∃k,n=k+1:=⟨n-1,by omega⟩
 have hW:=d7;rw[Zo hX];simp only[EU,EZ,Yk];rw[qvp hX (by omega) (HC hX I),qc];dsimp only;rw[qg (by omega)];refine dF (LY hX n n (by omega) _ who hl _ n 0 m (eU _) (by omega) I hw (by omega)) ?_;rw[iD];rfl
end
def uS(r:qp):List Int:=(List.range 20).map fun p:Nat=>cj r (p:Int)
def fZ(r:qp)(L:List (List cL)):aN:=(((uS r).map fun v=>((v,0,0,()):lQ),List.replicate L.length dD,()),L.map fun ops=>((ops,0,false,[],[],()):eP),0,[],[],r,())
structure jy (L:List (List cL)):Prop where
 n:1<=L.length/\L.length<=3
 ops:∀ops∈L,ops.length<=4/\∀o∈ops,cH o=true
theorem ye(r:qp):(uS r).length=20:=by unfold uS;simp
theorem EI(r:qp){p:Nat}(h:p<20):(uS r).getD p 0=cj r (p:Int):=by unfold uS;rw[qv (by simp[h])];simp
theorem OP{a b:List Int}(ha:a.length=20)(hb:b.length=20)(h:∀p:Nat,p<20->a.getD p 0=b.getD p 0):a=b:=by
 apply xA (by omega);intro p h1 h2;have:=h p (by omega)
 rwa [qv h1,qv h2]at this
theorem S9{r:qp}(hr:aM r){L:List (List cL)}(hL:jy L):Inv (fZ r L):=by
  have zR:=hL.n;have jK:(fZ r L).2.1.length=L.length:=by unfold fZ;simp
  have m3:∀p:Int,0<=p->p<20->wd (fZ r L).1 p=(cj r p,0,0,()):=by intro p p0 p1;unfold wd fZ;dsimp only;rw[qv (by rw[jw,ye];omega),um];have:=EI r (p:=p.toNat) (by omega);rw[qv (by rw[ye];omega)]at this;rw[this,show((p.toNat:Nat):Int)=p by omega]
  have kT:∀t:Int,aE (fZ r L).1 t=dD:=by intro t;unfold aE fZ;dsimp only;rw[FT,sI];split<;>rfl
  have ue:∀t:Int,0<=t->t<L.length->∃ops∈L,aG (fZ r L) t=(ops,0,false,[],[],()):=by
    intro t t0 t1;have hlt:t.toNat<L.length:=by omega
    refine⟨L[t.toNat],ef _,?_⟩;unfold aG fZ;dsimp only;rw[qv (by simpa using hlt),um]
  have hno:∀t:Int,0<=t->t<L.length->¬ ga (fZ r L) t:=by intro t t0 t1;obtain⟨ops,_,e⟩:=ue t t0 t1;unfold ga;rw[e];simp[b9]
  refine⟨by rw[jK];exact hL.n,by show(0:Int)<=0;omega,?_,?_,?_,?_,hr⟩
  . rw[jK]
    refine⟨by unfold fZ;simp[ye],by unfold fZ;simp,?_,?_,?_,?_,?_⟩
    . intro t _ _
      rw[kT];exact⟨List.Pairwise.nil,by simp[dD],fun e he=>by simp[dD]at he,by show(0:Int)<=0/\(0:Int)<=0;omega,⟨fun _=>rfl,fun h=>by simp[dD]at h⟩,by simp[dD]⟩
    . intro p p0 p1
      left;rw[m3 p p0 p1];have:=Bu hr p ⟨p0,p1⟩;exact⟨rfl,rfl,this.1,by dsimp only;omega⟩
    . intro t _ _ e
      rw[kT]at e;simp[dD]at e
    . intro t t0 t1 e
      exact absurd e (hno t t0 t1)
    . intro t _ _ e
      rw[kT]at e;simp[dD]at e
  . intro t t0 t1
    rw[jK]at t1⊢;obtain⟨ops,ho,e⟩:=ue t t0 t1;rw[e];have h2:=hL.ops ops ho
    exact { ops:=h2,pc:=⟨vA _,by dsimp only;omega⟩,on:=fun q=>(by cases q),off:=fun _=>⟨rfl,rfl⟩,got:=fun g hg=>by simp at hg,st:=.inl rfl,jI:=fun k hk=>by simp at hk,own:=fun k hk=>by simp at hk,
            along:=fun q=>(by cases q),read:=fun q=>(by cases q),plan:=fun q=>by simp[b9]at q }
  . rw[jK]
    refine⟨fun k a b=>?_,fun j k a b c=>?_,fun t t0 t1=>?_,fun t t0 t1 e=>?_,fun t t0 t1 _ k a b=>?_,fun t k _ _ hk=>?_,fun k hk=>?_,?_,?_,fun k a b=>?_⟩
    . simp[fZ]at b;omega
    . simp[fZ]at c;omega
    . obtain⟨ops,_,e⟩:=ue t t0 t1
      rw[e];simp[fZ,vU]
    . obtain⟨ops,_,e2⟩:=ue t t0 t1
      rw[e2]at e;cases e
    . simp[fZ]at b;omega
    . have:=hk.dL
      simp[fZ]at this;omega
    . simp[fZ]at hk
    . exact List.nodup_nil
    . exact List.Pairwise.nil
    . simp[fZ]at b;omega
  . refine⟨r,hr,iq.nil r,fun p p0 p1=>?_⟩
    rw[CJ (by rw[m3 p p0 p1]),m3 p p0 p1]
section
variable {X:Ext} (hX:fR X) {n:Nat}
include hX
theorem QI(D:Den ctx)(n:Nat)(K:bw->bw->Option ((bw×Bool×Unit)×Unit))(ws:List Int)(hl:ws.length<=1000)(z:bw)(d:List nW×Unit):∀(c i:Nat),i<=ws.length->ws.length-i<c->
  RD D n K c (ws.length:Int) (i:Int) z ((ws.take i).map (fun v=>((v,0,0,()):lQ)),d) ws=K z (ws.map (fun v=>((v,0,0,()):lQ)),d)
 | 0,i,_,h2=>by omega
 | c+1,i,h0,h2=>by
  have hb:=iG;simp only[RD,WZ];by_cases hi:i<ws.length
  .have ih:=QI D n K ws hl z d c (i+1) (by omega) (by omega);rw[qf (by omega),ix hi,aA,dQ,qv hi,qu (by omega)];rw[qf (by rw[jw,cY];omega)];rw[mw hi,o5]at ih;exact ih
  .rw[qg (by omega),show ws.take i=ws from jf (by omega)]
theorem ag4(hn:W+6<=n){r:qp}(hr:aM r):TN (DD X n) r=some ((uS r,()),()):=by obtain⟨ws,h1,h2,h3⟩:=abg hX hn hr;rw[h3,OP h1 (ye r) (fun p hp=>by rw[h2 p hp,EI r hp];rfl)]
theorem aaY(hn:W+8<=n){r:qp}(hr:aM r){L:List (List cL)}(hL:jy L):XV (DD X n) r (L.length:Int)=some (((fZ r L).1,true,()),()):=by
 obtain⟨n,rfl⟩:∃k,n=k+1:=⟨n-1,by omega⟩
 have hW:=d7;have hb:=iG;have zR:=hL.n;have I:=S9 hr hL;have jK:(fZ r L).2.1.length=L.length:=by unfold fZ;simp
 rw[ahB hX];simp only[X6,Yg,qyp];rw[lN hX (by omega),qc];dsimp only;rw[jM ⟨by omega,by omega⟩,cE,aJ,show(decide (0<=(L.length:Int))&&decide ((L.length:Int)<=(L.length:Int))&&decide ((L.length:Int)<=(fY:Int)))=true by simp;omega,aA,ag4 hX (by omega) hr,qc];dsimp only;refine dF (QI hX (DD X n) n _ (uS r) (by rw[ye];omega) ([],[],()) (List.replicate L.length dD,()) n 0 (eU _) (by rw[ye];omega)) ?_;simp only[q8y];have hm:=xD hX (n:=n) (by omega) I.mem (by show(0:Int)<=1000000;omega) (by rw[jK];omega) (by rw[jK];omega);refine dF (eM (fun z=>qd z _) hm) ?_;rw[qc];dsimp only;rw[cE,aJ];rfl
theorem Px(N n:Nat)(hN:2<=N)(K:Bool->aN->aN->Option ((aN×Bool×Unit)×Unit))(L:List (List cL))(hl:L.length<=1000)(h1:∀ops∈L,ops.length<=1000)(b:Bool)(z:aN)(a:bw)(e:Int×List d8×List Int×qp×Unit):∀(c i:Nat),i<=L.length->L.length-i<c->
  Ra (DD X N) n K c b L (L.length:Int) (i:Int) z (a,(L.take i).map (fun ops=>((ops,0,false,[],[],()):eP)),e)=K b z (a,L.map (fun ops=>((ops,0,false,[],[],()):eP)),e)
 | 0,i,_,h2=>by omega
 | c+1,i,h0,h2=>by
  have hb:=iG;simp only[Ra,qsc];by_cases hi:i<L.length
  .have ih:=Px N n hN K L hl h1 b z a e c (i+1) (by omega) (by omega);have hd:=h1 _ (ef hi);obtain⟨N,rfl⟩:∃k,N=k+1:=⟨N-1,by omega⟩
   rw[qf (by omega),ix hi,aA,dQ,qv hi,qu (by omega),aen hX];simp only[qvy,q89];rw[qts hX (by omega) _ (by omega),qc,qc];dsimp only;rw[qf (by rw[jw,cY];omega)];rw[mw hi,o5]at ih;exact ih
  .rw[qg (by omega),show L.take i=L from jf (by omega)]
theorem aai(hn:W+11<=n){r:qp}(hr:aM r){L:List (List cL)}(hL:jy L):qtv (DD X n) r L=some ((fZ r L,true,()),()):=by
 obtain⟨n,rfl⟩:∃k,n=k+1:=⟨n-1,by omega⟩
 have hW:=d7;have zR:=hL.n;have I:=S9 hr hL;rw[adP hX];simp only[qt4,qui,qqp];rw[aaY hX (by omega) hr hL,qc,S4 hX (by omega) hr,qc];dsimp only;refine dF (Px hX n n (by omega) _ L (by omega) (fun ops h=>by have:=(hL.ops ops h).1;omega) true (([],[],()),[],0,[],[],([],0,()),()) (fZ r L).1 (0,[],[],r,()) n 0 (eU _) (by omega)) ?_;simp only[qyl];have hm:=Ry hX (n:=n) (by omega) I (by show(0:Int)<=100000;omega);rw[cE,aJ];refine dF (eM (fun z=>qd z _) hm) ?_;rw[qc];dsimp only;rw[cE,aJ];rfl
end
end Go.G

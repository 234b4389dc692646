import Derived.Test.YtpmimbgkiindbaaGreatAPFnAlone2
set_option maxRecDepth 100000
set_option linter.unusedVariables false
set_option linter.unusedSimpArgs false
set_option linter.unusedSectionVars false
open Go.IntKind (wrap)
namespace Go.G
open Go Go.V Go.Proofs
def dJ(got:dL)(p:Int):Int:=(eW got p).1
def gY(got:dL):List Int:=got.map (·.1)
def qK(got:dL)(o:cK):Prop:=∃B,path (dJ got) (prog o)=gY got++B
def sj(got:dL):Prop:=∀g∈got,0<=g.2.1/\g.2.1<=6
theorem Nx(q:Int):∀(a b:dL)(v:Int)(ok:Bool),rd q (a++b) v ok=rd q b (rd q a v ok).1 (rd q a v ok).2
 | [],b,v,ok=>rfl
 | (p,x,_)::a,b,v,ok=>by
  simp only[fH,rd];split<;>exact Nx q a b _ _
theorem Qw(got:dL)(p v q:Int):eW (got++[(p,v,())]) q=if p=q then (v,true) else eW got q:=by unfold eW;rw[Nx];simp only[rd]
theorem BC(q:Int):∀(a:dL)(v:Int)(ok:Bool),q∉gY a->rd q a v ok=(v,ok)
 | [],v,ok,_=>rfl
 | (p,x,_)::a,v,ok,h=>by
  simp only[gY,cv,bh,zF]at h;simp only[rd];rw[af (fun e=>h.1 e.symm)];exact BC q a v ok h.2
theorem qJ(q:Int):∀(a:dL)(v:Int)(ok:Bool),q∈gY a->(rd q a v ok).2=true/\∃g∈a,g.1=q/\(rd q a v ok).1=g.2.1
 | [],v,ok,h=>by simp[gY]at h
 | (p,x,u)::a,v,ok,h=>by
  simp only[rd];by_cases hq:q∈gY a
  .obtain⟨h1,g,hg,h2⟩:=qJ q a (if p=q then x else v) (if p=q then true else ok) hq;have e:(if p=q then rd q a x true else rd q a v ok)=rd q a (if p=q then x else v) (if p=q then true else ok):=by split<;>rfl
   rw[e];exact⟨h1,g,cF _ hg,h2⟩
  .have hp:q=p:=by simp only[gY,cv,bh]at h;exact h.resolve_right hq
   rw[aj hp.symm,BC q a x true hq];exact⟨rfl,(p,x,u),e7,hp.symm,rfl⟩
theorem GX(got:dL):AE got (dJ got) (gY got):=by
 intro q;by_cases h:q∈gY got
 .rw[aj h];exact Prod.ext rfl (qJ q got 0 false h).1
 .rw[af h];exact BC q got 0 false h
theorem MX:∀{got:dL},(gY got).Nodup->∀{g g':Int×Int×Unit},g∈got->g'∈got->g'.1=g.1->g=g'
 | [],_,g,g',hg,_,_=>by simp at hg
 | a::l,h,g,g',hg,hg',h1=>by
  rw[gY,cv,F_]at h;rcases bh.1 hg with rfl | hg2
  .rcases bh.1 hg' with rfl | WM
   .rfl
   .exact absurd (eI.2 ⟨g',WM,h1⟩) h.1
  .rcases bh.1 hg' with rfl | WM
   .exact absurd (eI.2 ⟨g,hg2,h1.symm⟩) h.1
   .exact MX h.2 hg2 WM h1
theorem Mr{got:dL}(h:(gY got).Nodup){g:Int×Int×Unit}(hg:g∈got):dJ got g.1=g.2.1:=by have hm:g.1∈gY got:=eI.2 ⟨g,hg,rfl⟩;obtain⟨_,g',hg',h1,h2⟩:=qJ g.1 got 0 false hm;have e:=MX h hg hg' h1;have e2:dJ got g.1=g'.2.1:=h2;rw[e2,e]
theorem L3{got:dL}(hg:sj got)(p:Int):0<=dJ got p/\dJ got p<=6:=by
 by_cases h:p∈gY got
 .obtain⟨_,g,hm,_,e⟩:=qJ p got 0 false h;have:=hg g hm;unfold dJ eW;rw[e];exact this
 .have:=BC p got 0 false h;unfold dJ eW;rw[this];dsimp only;omega
theorem GQ{w w':Int->Int}:∀(A:List Int)(P:PR)(B:List Int),path w P=A++B->(∀a∈A,w' a=w a)->∃B',path w' P=A++B'/\B'.head? = B.head?
 | [],.done,B,h,_=>⟨[],rfl,by simp only[path,gy]at h;rw[<-h]⟩
 | [],.ask p k,B,h,_=>⟨p::path w' (k (w' p)),rfl,by simp only[path,gy]at h;rw[<-h];rfl⟩
 | a::A,.done,B,h,_=>by simp[path]at h
 | a::A,.ask p k,B,h,hw=>by
  simp only[path,fH,eY]at h;obtain⟨rfl,h⟩:=h;obtain⟨B',h1,h2⟩:=GQ A (k (w p)) B h fun b hb=>hw b (cF _ hb);exact⟨B',by simp only[path,fH];rw[hw p e7,h1],h2⟩
section
variable {o:cK} (ho:dh o=true) {got:dL} (hg:sj got)
include ho hg
theorem J2(h:qK got o):(gY got).Nodup/\(∀p∈gY got,0<=p/\p<20)/\got.length<=8:=by obtain⟨B,hB⟩:=h;have hp:=JB ho (dJ got) (fun k _=>L3 hg k);rw[hB]at hp;refine⟨(FZ.1 hp.once).1,fun p h=>hp.dQ p (B4 _ h),?_⟩;have:=hp.len;rw[cT,gY,jA]at this;omega
theorem J4(h:qK got o):(run got (prog o)).1=gY got/\
  ((path (dJ got) (prog o)=gY got/\(run got (prog o)).2 = -1)\/∃q B,path (dJ got) (prog o)=gY got++q::B/\(run got (prog o)).2=q/\(0<=q/\q<20)/\q∉gY got/\got.length<8):=by
 obtain⟨B,hB⟩:=h;have hp:=JB ho (dJ got) (fun k _=>L3 hg k);rw[hB]at hp;have hn:=FZ.1 hp.once;have hr:=Ht (GX got) (gY got) B (prog o) hB (fun a h=>h) (fun a h=>(hp.dQ a h).1) (fun b B' e hb=>hn.2.2 b hb b (by rw[e];exact e7) rfl);rw[hr];refine⟨rfl,?_⟩;cases B with
 | nil=>exact .inl ⟨by rw[hB,gR],rfl⟩
 | cons q B=>refine .inr ⟨q,B,hB,rfl,hp.dQ q (by simp),fun h=>hn.2.2 q h q e7 rfl,?_⟩;have:=hp.len;rw[cT,gY,jA,ct]at this;omega
theorem aa7(h:qK got o){q:Int}{B:List Int}(hq:path (dJ got) (prog o)=gY got++q::B)(hn:q∉gY got)(v:Int):qK (got++[(q,v,())]) o:=by
 have hw:∀a∈gY got,dJ (got++[(q,v,())]) a=dJ got a:=by intro a ha;unfold dJ;rw[Qw,af (fun e:q=a=>hn (by rw[e];exact ha))]
 obtain⟨B',h1,h2⟩:=GQ (gY got) (prog o) (q::B) hq hw;cases B' with
 | nil=>simp at h2
 | cons b B'=>simp only[List.head?_cons,aK]at h2;subst h2;exact⟨B',by rw[h1];simp[gY]⟩
end
theorem QS(o:cK):qK [] o:=⟨path (dJ []) (prog o),rfl⟩
theorem abV{o:cK}{got:dL}{r:qp}(hn:(gY got).Nodup)(hp:path (dJ got) (prog o)=gY got)(h:∀g∈got,g.2.1=b_ r g.1):got=fy r o:=by
 have hw:∀a∈gY got,b_ r a=dJ got a:=by intro a ha;obtain⟨g,hg,rfl⟩:=eI.1 ha;rw[Mr hn hg,h g hg]
 obtain⟨B',h1,h2⟩:=GQ (w':=b_ r) (gY got) (prog o) [] (by rw[hp,gR]) hw;have hB:B'=[]:=by cases B' with | nil=>rfl | cons b B'=>simp at h2
 rw[hB,gR]at h1;unfold fy;rw[h1,gY,BO];have:got.map ((fun p=>(p,b_ r p,())) ∘ fun(x:Int×Int×Unit)=>x.1)=got.map id:=by apply rE;intro g hg;show(g.1,b_ r g.1,())=g;rw[<-h g hg]
 rw[this,List.map_id]
theorem Ml:∀(a b:List Int),a.Nodup->(∀x∈a,x∈b)->b.length<=a.length->∀x∈b,x∈a
 | [],b,_,_,hl,x,hx=>by
  have:b=[]:=lD.1 (by simpa using hl);rw[this]at hx;exact hx
 | a::l,b,hn,hs,hl,x,hx=>by
  rw[F_]at hn;have hab:=hs a e7;have hlen:=List.length_erase_of_mem hab;have hpos:0<b.length:=List.length_pos_of_mem hab;have:=Ml l (b.erase a) hn.2 (fun y hy=>(List.mem_erase_of_ne (fun e=>hn.1 (by rw[<-e];exact hy))).2 (hs y (cF _ hy))) (by simp only[ct]at hl;omega);by_cases h:x=a
  .rw[h];exact e7
  .exact cF _ (this x ((List.mem_erase_of_ne h).2 hx))
section
variable {o:cK} (ho:dh o=true) {got:dL} (hg:sj got) (nL:qK got o) (hp:path (dJ got) (prog o)=gY got) (dz:mJ o got=none)
include ho hg nL hp dz
theorem MR:lJ (dI o got):=by
 have hpk:=JB ho (dJ got) (fun k _=>L3 hg k);have hk:AE got (dJ got) (path (dJ got) (prog o)):=by rw[hp];exact GX got
 have hrun:(run got (prog o)).2 = -1:=by
  rcases(J4 ho hg nL).2 with h | ⟨q,B,h,_⟩
  .exact h.2
  .rw[hp]at h;have:=er List.length h;simp at this
 have Je:∀p∈path (dJ got) (prog o),val got p=dJ got p:=fun p hp=>rfl;unfold dI;by_cases eJ:o.1=1\/o.1=2\/o.1=3
 .rw[aj eJ];obtain⟨_,r2,_,_⟩:=L1 (got:=got) (K:=o.2.1) (V:=o.2.2.1) (held:=val got (qw o.2.1)) (st:=val got 13) (xK ho dz eJ);exact r2
 rw[af eJ];by_cases k7:o.1=7
 .rw[aj k7];simp[lJ,same]
 rw[af k7];by_cases k8:o.1=8
 .rw[aj k8];simp[lJ]
 rw[af k8];by_cases k9:o.1=9
 .rw[aj k9];have h1:=u_ (wrap .i64 (val got 13-1));generalize qw (wrap .i64 (val got 13-1))=q at *;have h2:=oK (val got q);cases hin:bu (val got q) 1 6
  .simp[lJ,same,cond];omega
  .have:=kZ.1 hin;simp only[bA,lJ,same,l9,bh,dc,di,uF,uL,List.Pairwise.nil,iO,false_imp_iff,uK];omega
 rw[af k9];by_cases jo:o.1=10
 .rw[aj jo];have ua:=tH ho;have h2:=oK o.2.2.1;simp only[lJ,same,l9,bh,dc,di,uF,uL,List.Pairwise.nil,iO,false_imp_iff,uK];omega
 rw[af jo];exact List.Pairwise.nil
theorem Be:(∀g∈got,∃e∈dI o got,e.1=g.1/\e.2.1=g.2.1)/\(∀e∈dI o got,∃g∈got,g.1=e.1/\g.2.1=e.2.1)/\(dI o got).length=got.length:=by
 have hk:AE got (dJ got) (path (dJ got) (prog o)):=by rw[hp];exact GX got
 have hn:=(J2 ho hg nL).1;have hrun:run got (prog o)=(path (dJ got) (prog o),-1):=by
  obtain⟨h1,h2⟩:=J4 ho hg nL;rcases h2 with h | ⟨q,B,h,_⟩
  .exact Prod.ext (by rw[h1,hp]) h.2
  .rw[hp]at h;have:=er List.length h;simp at this
 obtain⟨hA,hB⟩:=MQ ho (fun k _=>L3 hg k) hk hrun dz;rw[hp]at hA hB;have hlen:(dI o got).length=got.length:=by rw[hB,gY,jA]
 have oO:=MR ho hg nL hp dz;have h1:∀g∈got,∃e∈dI o got,e.1=g.1/\e.2.1=g.2.1:=by intro g zp;obtain⟨e,he,a,b⟩:=hA g.1 (eI.2 ⟨g,zp,rfl⟩);exact⟨e,he,a,by rw[b,Mr hn zp]⟩
 refine⟨h1,?_,hlen⟩;intro e he;have hm:e.1∈gY got:=by refine Ml (gY got) ((dI o got).map (·.1)) hn (fun x hx=>?_) (by rw[jA,hlen,gY,jA];exact cq _) e.1 (eI.2 ⟨e,he,rfl⟩);obtain⟨g,zp,rfl⟩:=eI.1 hx;obtain⟨e',he',a,_⟩:=h1 g zp;exact eI.2 ⟨e',he',a⟩
 obtain⟨g,zp,hge⟩:=eI.1 hm;obtain⟨e',he',a,b⟩:=h1 g zp;have:e'=e:=by
  have Um:=QU oO;have hinj:∀(l:List eu),(l.map (·.1)).Nodup->∀x∈l,∀y∈l,x.1=y.1->x=y:=by
   intro l
   induction l with
   | nil=>intro _ x hx;simp at hx
   | cons c l ih=>
    intro hd x hx y hy hxy;rw[cv,F_]at hd;rcases bh.1 hx with hx | hx
    .rcases bh.1 hy with hy | hy
     .rw[hx,hy]
     .exact absurd (eI.2 ⟨y,hy,by rw[<-hxy,hx]⟩) hd.1
    .rcases bh.1 hy with hy | hy
     .exact absurd (eI.2 ⟨x,hx,by rw[hxy,hy]⟩) hd.1
     .exact ih hd.2 x hx y hy hxy
  exact hinj _ Um e' he' e he (by rw[a];exact hge)
 rw[this]at b;exact⟨g,zp,hge,b.symm⟩
theorem MS:∀e∈dI o got,(0<=e.1/\e.1<20)/\(0<=e.2.1/\e.2.1<=1000)/\(0<=e.2.2.1/\e.2.2.1<=1000):=by
 intro e he;obtain⟨g,zp,h1,h2⟩:=(Be ho hg nL hp dz).2.1 e he;have hr:=(J2 ho hg nL).2.1 g.1 (eI.2 ⟨g,zp,rfl⟩);have hv:=hg g zp;refine⟨by omega,by omega,?_⟩;have hval:∀p,0<=val got p/\val got p<=6:=fun p=>L3 hg p;have ua:=tH ho;unfold dI at he;by_cases eJ:o.1=1\/o.1=2\/o.1=3
 .rw[aj eJ]at he;obtain⟨_,_,r3,_⟩:=L1 (got:=got) (K:=o.2.1) (V:=o.2.2.1) (held:=val got (qw o.2.1)) (st:=val got 13) (xK ho dz eJ);rw[r3,Jo]at he;obtain⟨q,hq,hh,rfl⟩:=he;dsimp only;have hold:=hval q.1;unfold val at hold;generalize (eW got q.1).1=old at *;have zm:=hval 13;unfold e9 at hq;have Al:0<=one old/\one old<=1000:=by unfold one;rw[qs (by omega) (by omega)];omega
  have nX:0<=less old/\less old<=1000:=by unfold less;rw[qs (by omega) (by omega)];split<;>omega
  have Uj:wrap .i64 (o.2.1+1)=o.2.1+1:=qs (by omega) (by omega);have al3:=ua;have hc:q=(qw o.2.1,fun _=>o.2.2.1)\/q=(13,fun _=>val got 13)\/q.2=(fun _=>0)\/q.2=(fun _=>wrap .i64 (o.2.1+1))\/q.2=less\/q.2=one:=by
   cases mc:qh (val got (qw o.2.1)) != qh o.2.2.1
   .rw[mc]at hq;simp only[bf,gR,bh,dc,di]at hq;rcases hq with rfl | rfl | rfl | rfl | rfl | rfl<;>simp
   .rw[mc]at hq;simp only[bA,fH,gy,bh,dc,di]at hq;rcases hq with rfl | rfl | rfl | rfl | rfl | rfl | rfl | rfl<;>simp
  rcases hc with e | e | e | e | e | e
  .rw[e];show 0<=o.2.2.1/\o.2.2.1<=1000;omega
  .rw[e];show 0<=val got 13/\val got 13<=1000;omega
  .rw[e];show(0:Int)<=0/\(0:Int)<=1000;omega
  .rw[e];show 0<=wrap .i64 (o.2.1+1)/\wrap .i64 (o.2.1+1)<=1000;rw[Uj];omega
  .rw[e];exact nX
  .rw[e];exact Al
 have hsame:∀p,0<=(same got p).2.2.1/\(same got p).2.2.1<=1000:=fun p=>by have:=hval p;unfold same;dsimp only;omega
 have zm:=hval 13;rw[af eJ]at he;by_cases k7:o.1=7
 .rw[aj k7]at he;simp only[bh,dc,di]at he;rcases he with rfl | rfl | rfl | rfl<;>exact hsame _
 rw[af k7]at he;by_cases k8:o.1=8
 .rw[aj k8]at he;simp only[bh,dc,di]at he;subst he;dsimp only;omega
 rw[af k8]at he;by_cases k9:o.1=9
 .rw[aj k9]at he;simp only[bh]at he;rcases he with rfl | rfl | he
  .exact hsame _
  .dsimp only;rw[qs (by omega) (by omega)];omega
  .cases hin:bu (val got (qw (wrap .i64 (val got 13-1)))) 1 6
   .rw[hin]at he;simp at he
   .rw[hin,bA,d6]at he;subst he;dsimp only;omega
 rw[af k9]at he;by_cases jo:o.1=10
 .rw[aj jo]at he;simp only[bh,dc,di]at he;rcases he with rfl | rfl<;>exact hsame _
 rw[af jo]at he;simp at he
end
theorem BY{r:qp}(hr:aW r)(p:Int)(hp:0<=p/\p<20):0<=b_ r p/\b_ r p<=6:=by
 have hl:=hr.len;have hst:=hr.st;have hk:=fun v=>yL v r.1 0;unfold b_ jV;by_cases h1:p.toNat<4
 .rw[aj h1];rw[qv (by omega)];exact hr.dQ _ (ez _)
 rw[af h1];by_cases h2:p.toNat<10
 .rw[aj h2];have:=hk ((p.toNat:Int)-3);unfold qF;split<;>omega
 rw[af h2];by_cases h3:p.toNat<13
 .rw[aj h3];have key:∀(c:Int)(l:List Int),0<=many c l/\many c l<=l.length:=by
   intro c l
   induction l with
   | nil=>simp[many]
   | cons a l ih=>simp only[many,ct];cases (bu a 1 6&&decide (qh a=c))<;>simp<;>omega
  have:=key ((p.toNat:Int)-10) r.1;omega
 rw[af h3];by_cases h4:p.toNat=13
 .rw[aj h4];omega
 rw[af h4];have:=hk ((p.toNat:Int)-13);unfold lB;split<;>omega
theorem akZ{r:qp}(hr:aW r){o:cK}(ho:dh o=true){g0:dL}{q:Int}(hp:path (dJ (g0++[(q,b_ r q,())])) (prog o)=gY (g0++[(q,b_ r q,())])){x:Int×List Int}(dz:mJ o (g0++[(q,b_ r q,())])=some x) :
  Out r o x.1 x.2/\jf r o x.1=r/\x.2.length<=4:=by
 have xl:dJ (g0++[(q,b_ r q,())]) q=b_ r q:=by unfold dJ;rw[Qw,aj rfl]
 have aZ:(path (dJ (g0++[(q,b_ r q,())])) (prog o)).getLast? = some q:=by rw[hp];simp[gY]
 have hn:jM o.1 o.2.2.1 (dJ (g0++[(q,b_ r q,())]) (qw o.2.1)) (dJ (g0++[(q,b_ r q,())]) (q9 o.2.2.1)) (dJ (g0++[(q,b_ r q,())]) 13) (dJ (g0++[(q,b_ r q,())]) (iQ o.2.1))=some x:=dz;clear hp dz;generalize dJ (g0++[(q,b_ r q,())])=w at *;have ua:=tH ho;have hst:=hr.st;have hl:=hr.len;have hrow:=u_ o.2.1;have hown:=uU o.2.2.1;have hk:=yL o.2.2.1 r.1 0;unfold jM at hn;by_cases k1:o.1=1
 .have gW:prog o=sE o:=by unfold prog;rw[aj k1]
  have hK:qw o.2.1=o.2.1:=by omega
  rw[gW]at aZ;unfold sE at aZ;simp only[path]at aZ;by_cases a:w (qw o.2.1)≠0
  .rw[aj ⟨k1,a⟩]at hn;obtain rfl:=gS hn;rw[show(w (qw o.2.1) != 0)=true by rw[bH,b7 a];rfl,bA]at aZ;simp only[path,nF,aK]at aZ;rw[aZ,xl,<-aZ,hK,(u5 hr (by omega)).1]at a;exact⟨.EL k1 a,by unfold jf;rw[aj (by decide)],by simp⟩
  .rw[af (fun z=>a z.2)]at hn;have a':w (qw o.2.1)=0:=by omega
   rw[show(w (qw o.2.1) != 0)=false by rw[bH,bz a'];rfl,bf]at aZ;simp only[path]at aZ;by_cases b:w (q9 o.2.2.1)≠0
   .rw[aj ⟨k1,b⟩]at hn;obtain rfl:=gS hn;rw[show(w (q9 o.2.2.1) != 0)=true by rw[bH,b7 b];rfl,bA]at aZ;simp only[path,Sy,nF,aK]at aZ;rw[aZ,xl,<-aZ,IK hr (by omega)]at b;exact⟨.EM k1 (by omega),by unfold jf;rw[aj (by decide)],by simp⟩
   .rw[af (fun z=>b z.2),af (by omega),af (by omega),af (by omega),af (by omega),af (by omega),af (by omega),af (by omega),af (by omega),af (by omega),af (by omega)]at hn;cases hn
 rw[af (fun z=>k1 z.1),af (fun z=>k1 z.1)]at hn;by_cases k2:o.1=2
 .have gW:prog o=sF o:=by unfold prog;rw[af k1,aj k2]
  have hK:qw o.2.1=o.2.1:=by omega
  rw[gW]at aZ;unfold sF at aZ;simp only[path]at aZ;have hone:(w (qw o.2.1)=0\/w (qw o.2.1)=o.2.2.1)->w (qw o.2.1)=r.1.getD o.2.1.toNat 0:=by
   intro h;rw[show(bif decide (w (qw o.2.1)=0) then true else decide (w (qw o.2.1)=o.2.2.1))=true by
    rcases h with h | h
    .rw[bz h];rfl
    .rw[bz h];cases decide (w (qw o.2.1)=0)<;>rfl,bA]at aZ
   simp only[path,nF,aK]at aZ;rw[aZ,xl,<-aZ,hK,(u5 hr (by omega)).1]
  by_cases a:w (qw o.2.1)=0
  .rw[aj ⟨.inl k2,a⟩]at hn;obtain rfl:=gS hn;exact⟨.IY k2 (by rw[<-hone (.inl a)];exact a),by unfold jf;rw[aj (by decide)],by simp⟩
  rw[af (fun z=>a z.2)]at hn;by_cases b:w (qw o.2.1)=o.2.2.1
  .rw[aj ⟨k2,b⟩]at hn;obtain rfl:=gS hn;have e:=hone (.inr b);rw[e]at a b;refine⟨.CC k2 a b,?_,by simp⟩;unfold jf;rw[af (by decide),aj (.inr k2)];have hs:r.1.set o.2.1.toNat o.2.2.1=r.1:=by rw[<-b,qv (by omega)];exact Fx _
   rw[hs]
  rw[af (fun z=>b z.2)]at hn;by_cases d:w (q9 o.2.2.1)≠0
  .rw[aj ⟨k2,d⟩]at hn;obtain rfl:=gS hn;rw[b7 a,b7 b]at aZ;simp only[bf,path]at aZ;rw[show(w (q9 o.2.2.1) != 0)=true by rw[bH,b7 d];rfl,bA]at aZ;simp only[path,Sy,nF,aK]at aZ;rw[aZ,xl,<-aZ,IK hr (by omega)]at d;exact⟨.IX k2 (by omega),by unfold jf;rw[aj (by decide)],by simp⟩
  .rw[af (fun z=>d z.2),af (by omega),af (by omega),af (by omega),af (by omega),af (by omega),af (by omega),af (by omega)]at hn;cases hn
 by_cases k3:o.1=3
 .have gW:prog o=uY o:=by unfold prog;rw[af k1,af k2,aj k3]
  have hK:qw o.2.1=o.2.1:=by omega
  rw[gW]at aZ;unfold uY at aZ;simp only[path]at aZ;by_cases a:w (qw o.2.1)=0
  .rw[aj ⟨.inr (.inl k3),a⟩]at hn;obtain rfl:=gS hn;rw[bz a,bA]at aZ;simp only[path,nF,aK]at aZ;rw[aZ,xl,<-aZ,hK,(u5 hr (by omega)).1]at a;exact⟨.DP k3 a,by unfold jf;rw[aj (by decide)],by simp⟩
  .rw[af (fun z=>a z.2),af (by omega),af (by omega),af (by omega),af (by omega),af (by omega),af (by omega),af (by omega),af (by omega),af (by omega)]at hn;cases hn
 by_cases k4:o.1=4
 .have gW:prog o=.ask (qw o.2.1) fun _=>.done:=by unfold prog;rw[af k1,af k2,af k3,aj k4]
  have hK:qw o.2.1=o.2.1:=by omega
  rw[gW]at aZ;simp only[path,nF,aK]at aZ;have e:w (qw o.2.1)=r.1.getD o.2.1.toNat 0:=by rw[aZ,xl,<-aZ,hK,(u5 hr (by omega)).1]
  rw[e]at hn;by_cases a:r.1.getD o.2.1.toNat 0=0
  .rw[aj ⟨.inr (.inr k4),a⟩]at hn;obtain rfl:=gS hn;exact⟨.DY k4 a,by unfold jf;rw[aj (by decide)],by simp⟩
  .rw[af (fun z=>a z.2),af (by omega),af (by omega),aj k4]at hn;obtain rfl:=gS hn;exact⟨.DW k4 a,TI 0 (by omega),by simp⟩
 rw[af (by omega),af (by omega),af (by omega),af (by omega)]at hn;by_cases k5:o.1=5
 .have gW:prog o=.ask (q9 o.2.2.1) fun _=>.done:=by unfold prog;rw[af k1,af k2,af k3,af k4,aj k5]
  rw[gW]at aZ;simp only[path,nF,aK]at aZ;have e:w (q9 o.2.2.1)=a_ o.2.2.1 r.1 0+1:=by rw[aZ,xl,<-aZ,IK hr (by omega)]
  rw[e]at hn;by_cases a:a_ o.2.2.1 r.1 0+1=0
  .rw[aj ⟨k5,a⟩]at hn;obtain rfl:=gS hn;exact⟨.wD k5 (by omega),by unfold jf;rw[aj (by decide)],by simp⟩
  .rw[af (fun z=>a z.2),aj k5]at hn;obtain rfl:=gS hn;rw[qs (by omega) (by omega),show a_ o.2.2.1 r.1 0+1-1=a_ o.2.2.1 r.1 0 by omega];exact⟨.wC k5 (by omega),TI 0 (by omega),by simp⟩
 rw[af (fun z=>k5 z.1),af k5]at hn;by_cases k6:o.1=6
 .have gW:prog o=.ask (iQ o.2.1) fun _=>.done:=by unfold prog;rw[af k1,af k2,af k3,af k4,af k5,aj k6]
  rw[gW]at aZ;simp only[path,nF,aK]at aZ;have e:w (iQ o.2.1)=many o.2.1 r.1:=by rw[aZ,xl,<-aZ,Q6 (by omega)]
  rw[aj k6,e]at hn;obtain rfl:=gS hn;exact⟨.DN k6,TI 0 (by omega),by simp⟩
 rw[af k6]at hn;by_cases k8:o.1=8
 .have gW:prog o=.ask 13 fun _=>.done:=by unfold prog;rw[af k1,af k2,af k3,af k4,af k5,af k6,af (by omega),aj k8]
  rw[gW]at aZ;simp only[path,nF,aK]at aZ;have e:w 13=r.2.1:=by rw[aZ,xl,<-aZ,Du]
  rw[e]at hn;by_cases a:r.2.1≠0
  .rw[aj ⟨k8,a⟩]at hn;obtain rfl:=gS hn;exact⟨.xx k8 a,by unfold jf;rw[aj (by decide)],by simp⟩
  .rw[af (fun z=>a z.2),af (by omega),af (by omega)]at hn;cases hn
 rw[af (fun z=>k8 z.1)]at hn;by_cases k9:o.1=9
 .have gW:prog o=yG:=by unfold prog;rw[af k1,af k2,af k3,af k4,af k5,af k6,af (by omega),af k8,aj k9]
  rw[gW]at aZ;unfold yG at aZ;simp only[path]at aZ;by_cases a:w 13<1\/w 13>4
  .rw[aj ⟨k9,a⟩]at hn;obtain rfl:=gS hn;rw[show(bif decide (w 13<1) then true else decide (w 13>4))=true by
    rcases a with h | h
    .rw[bz h];rfl
    .rw[bz h];cases decide (w 13<1)<;>rfl,bA]at aZ
   simp only[path,nF,aK]at aZ;rw[aZ,xl,<-aZ,Du]at a;exact⟨.xu k9 (by omega),by unfold jf;rw[aj (by decide)],by simp⟩
  .rw[af (fun z=>a z.2),af (by omega)]at hn;cases hn
 rw[af (fun z=>k9 z.1)]at hn;by_cases jo:o.1=10
 .have gW:prog o=vW o:=by unfold prog;rw[af k1,af k2,af k3,af k4,af k5,af k6,af (by omega),af k8,af k9,aj jo]
  rw[gW]at aZ;unfold vW at aZ;simp only[path]at aZ;by_cases a:w 13≠5
  .rw[aj ⟨jo,a⟩]at hn;obtain rfl:=gS hn;rw[show(w 13 != 5)=true by rw[bH,b7 a];rfl,bA]at aZ;simp only[path,nF,aK]at aZ;rw[aZ,xl,<-aZ,Du]at a;exact⟨.I2 jo a,by unfold jf;rw[aj (by decide)],by simp⟩
  .rw[af (fun z=>a z.2)]at hn;cases hn
 .rw[af (fun z=>jo z.1)]at hn;cases hn
theorem acG{r:qp}(hr:aW r){o:cK}(ho:dh o=true)(dz:mJ o (fy r o)=none) :
  Out r o (eF o (fy r o)).1 (eF o (fy r o)).2.1:=by
 have gm:dh o=true/\(run (fy r o) (prog o)).2<0:=⟨ho,by rw[GZ hr ho];show(-1:Int)<0;omega⟩
 have h:=Na hr ho;unfold gh at h;rw[aj gm,dz]at h;exact h
theorem MF(o:cK)(got:dL):(eF o got).2.1.length<=4:=by
 unfold eF;split
 .simp
 .split
  .split<;>simp
  .simp
abbrev lX:=Int×Int×Int×Unit
abbrev fC:=Int×List Int×Unit
abbrev nt:=Int×Int×List eu×fC×Unit
abbrev gv:=Int×Int×Int×Int×Unit
abbrev aS:=List lX×List nt×Unit
abbrev cU:=List cK×Int×Bool×dL×List gv×Unit
abbrev gf:=Int×cK×Int×Int×Int×fC×Unit
abbrev aG:=aS×List cU×Int×List gf×List Int×qp×Unit
def dE:eu:=(0,0,0,())
def dD:nt:=(0,0,[],(0,[],()),())
def dW:lX:=(0,0,0,())
def dO:cK:=(0,0,0,())
def dT:cU:=([],0,false,[],[],())
def dC:gf:=(0,dO,0,0,0,(0,[],()),())
def dH:gv:=(0,0,0,0,())
def wd(m:aS)(p:Int):lX:=m.1.getD p.toNat dW
def aq(m:aS)(t:Int):nt:=m.2.1.getD t.toNat dD
def ep(m:aS)(p:Int)(w:lX):aS:=(m.1.set p.toNat w,m.2)
def bJ(m:aS)(t:Int)(d:nt):aS:=(m.1,m.2.1.set t.toNat d,())
def qi(l:List eu)(i:Int):eu:=l.getD i.toNat dE
def jG(l:List eu)(p:Int):eu:=(l.find? fun e=>decide (e.1=p)).getD dE
def dM(t s:Int):lX:=(0,t+1,s,())
def fX(m:aS)(p:Int):Int:=
 if (wd m p).2.1=0 then (wd m p).1 else
 if (aq m ((wd m p).2.1-1)).1=(wd m p).2.2.1/\(aq m ((wd m p).2.1-1)).2.1=2 then (jG (aq m ((wd m p).2.1-1)).2.2.1 p).2.2.1 else (jG (aq m ((wd m p).2.1-1)).2.2.1 p).2.1
def q7(m:aS)(h:gv):aS×gv×gv×Int×Unit:=
 if (aq m h.1).1≠h.2.1 then (m,h,dH,2,()) else
 if (aq m h.1).2.1=1 then
  if ((aq m h.1).2.2.1.length:Int)<=h.2.2.1 then (bJ m h.1 ((aq m h.1).1,2,(aq m h.1).2.2),h,dH,3,()) else
  if wd m (qi (aq m h.1).2.2.1 h.2.2.1).1=dM h.1 h.2.1 then (m,(h.1,h.2.1,h.2.2.1+1,h.2.2.2),dH,0,()) else
  if (wd m (qi (aq m h.1).2.2.1 h.2.2.1).1).2.1≠0 then (m,h,((wd m (qi (aq m h.1).2.2.1 h.2.2.1).1).2.1-1,(wd m (qi (aq m h.1).2.2.1 h.2.2.1).1).2.2.1,0,0,()),1,()) else
  if (wd m (qi (aq m h.1).2.2.1 h.2.2.1).1).1=(qi (aq m h.1).2.2.1 h.2.2.1).2.1 then (ep m (qi (aq m h.1).2.2.1 h.2.2.1).1 (dM h.1 h.2.1),(h.1,h.2.1,h.2.2.1+1,h.2.2.2),dH,0,())
  else (bJ m h.1 ((aq m h.1).1,3,(aq m h.1).2.2),h,dH,0,())
 else if ((aq m h.1).2.2.1.length:Int)<=h.2.2.2.1 then (m,h,dH,2,())
 else (if wd m (qi (aq m h.1).2.2.1 h.2.2.2.1).1=dM h.1 h.2.1 then
   ep m (qi (aq m h.1).2.2.1 h.2.2.2.1).1 (if (aq m h.1).2.1=2 then (qi (aq m h.1).2.2.1 h.2.2.2.1).2.2.1 else (qi (aq m h.1).2.2.1 h.2.2.2.1).2.1,0,0,()) else m,(h.1,h.2.1,h.2.2.1,h.2.2.2.1+1,()),dH,0,())
def ai(m:aG)(t:Int):cU:=m.2.1.getD t.toNat dT
def cA(m:aG)(t:Int)(x:cU):aG:=(m.1,m.2.1.set t.toNat x,m.2.2)
def CK(m:aG)(k:Int):gf:=m.2.2.2.1.getD k.toNat dC
def aV(x:cU):cK:=x.1.getD x.2.1.toNat dO
def qS(l:List gf)(t:Int):Nat->Int
 | 0=>-1
 | i+1=>if (l.getD i dC).1=t/\(l.getD i dC).2.2.2.2.1<0 then (i:Int) else qS l t i
def kF(l:List gf)(t:Int):Int:=qS l t l.length
def iB(m:aG)(t:Int)(s:fC):aG:=
 if kF m.2.2.2.1 t<0 then m else
 (m.1,m.2.1,m.2.2.1,m.2.2.2.1.set (kF m.2.2.2.1 t).toNat ((CK m (kF m.2.2.2.1 t)).1,(CK m (kF m.2.2.2.1 t)).2.1,(CK m (kF m.2.2.2.1 t)).2.2.1,m.2.2.1,(CK m (kF m.2.2.2.1 t)).2.2.2.2.1,s,()),m.2.2.2.2.1++[kF m.2.2.2.1 t],m.2.2.2.2.2)
def ig(m:aG)(t:Int)(s:fC):aG:=
 if kF m.2.2.2.1 t<0 then m else
 (m.1,m.2.1,m.2.2.1,m.2.2.2.1.set (kF m.2.2.2.1 t).toNat ((CK m (kF m.2.2.2.1 t)).1,(CK m (kF m.2.2.2.1 t)).2.1,(CK m (kF m.2.2.2.1 t)).2.2.1,(CK m (kF m.2.2.2.1 t)).2.2.2.1,m.2.2.1,s,()),m.2.2.2.2)
def d_(m:aG)(t:Int)(s:fC):aG:=cA (ig m t s) t ((ai m t).1,(ai m t).2.1+1,false,[],[],())
def au(x:cU):gv:=x.2.2.2.2.1.getD (x.2.2.2.2.1.length-1) dH
def qW(x:cU)(h:gv):cU:=(x.1,x.2.1,x.2.2.1,x.2.2.2.1,x.2.2.2.2.1++[h],())
def j_(x:cU)(h:gv):cU:=(x.1,x.2.1,x.2.2.1,x.2.2.2.1,x.2.2.2.2.1.set (x.2.2.2.2.1.length-1) h,())
def ja(x:cU):cU:=(x.1,x.2.1,x.2.2.1,x.2.2.2.1,x.2.2.2.2.1.take (x.2.2.2.2.1.length-1),())
def cH(m:aG)(a:aS):aG:=(a,m.2)
def kE(m:aG)(t:Int):aG:=
  if (q7 m.1 (au (ai m t))).2.2.2.1=1 then
    (if (au (ai m t)).1=t/\(ai m t).2.2.2.2.1.length=1 then cA (cH m (q7 m.1 (au (ai m t))).1) t (qW (ai m t) (q7 m.1 (au (ai m t))).2.2.1)
     else cA (cH m (q7 m.1 (au (ai m t))).1) t (j_ (ai m t) (q7 m.1 (au (ai m t))).2.2.1)) else
  if (q7 m.1 (au (ai m t))).2.2.2.1=2 then
    (if (au (ai m t)).1≠t then cA (cH m (q7 m.1 (au (ai m t))).1) t (ja (ai m t)) else
     if (aq m.1 t).2.1=2 then d_ (cH m (q7 m.1 (au (ai m t))).1) t (aq m.1 t).2.2.2.1
     else cA (cH m (q7 m.1 (au (ai m t))).1) t ((ai m t).1,(ai m t).2.1,(ai m t).2.2.1,[],[],())) else
  if (q7 m.1 (au (ai m t))).2.2.2.1=3 then
    cA (iB (cH m (q7 m.1 (au (ai m t))).1) (au (ai m t)).1 (aq m.1 (au (ai m t)).1).2.2.2.1) t (j_ (ai m t) (q7 m.1 (au (ai m t))).2.1)
  else cA (cH m (q7 m.1 (au (ai m t))).1) t (j_ (ai m t) (q7 m.1 (au (ai m t))).2.1)
def C9(x:cU):Int:=(run x.2.2.2.1 (prog (aV x))).2
def ir(m:aG)(x:cU):dL:=x.2.2.2.1++[(C9 x,(wd m.1 (C9 x)).1,())]
def rP(x:cU)(g:dL):cU:=(x.1,x.2.1,x.2.2.1,g,x.2.2.2.2)
def tJ(m:aG)(t:Int):aG:=
 if (wd m.1 (C9 (ai m t))).2.1≠0 then cA m t (qW (ai m t) ((wd m.1 (C9 (ai m t))).2.1-1,(wd m.1 (C9 (ai m t))).2.2.1,0,0,())) else
 if (gh (aV (ai m t)) (ir m (ai m t))).2.1=false then cA m t (rP (ai m t) (ir m (ai m t))) else
 if (gh (aV (ai m t)) (ir m (ai m t))).1.1=true then d_ (iB m t (gh (aV (ai m t)) (ir m (ai m t))).1.2.1) t (gh (aV (ai m t)) (ir m (ai m t))).1.2.1 else
 cA (cH m (bJ m.1 t ((aq m.1 t).1+1,1,(gh (aV (ai m t)) (ir m (ai m t))).1.2.2.1,(gh (aV (ai m t)) (ir m (ai m t))).1.2.1,()))) t
  (qW (rP (ai m t) (ir m (ai m t))) (t,(aq m.1 t).1+1,0,0,()))
def tick(m:aG):aG:=(m.1,m.2.1,m.2.2.1+1,m.2.2.2)
def pO(m:aG)(t:Int):aG:=
 cA (m.1,m.2.1,m.2.2.1,m.2.2.2.1++[(t,aV (ai m t),m.2.2.1,-1,-1,(0,[],()),())],m.2.2.2.2) t ((ai m t).1,(ai m t).2.1,true,(ai m t).2.2.2)
def vn(m:aG)(t:Int):aG:=
 if (ai m t).2.2.1=false then pO (tick m) t else
 if (ai m t).2.2.2.2.1≠[] then kE (tick m) t else tJ (tick m) t
theorem LM{α:Type}(l:List α)(i j:Nat)(x d:α):(l.set i x).getD j d=if i=j/\j<l.length then x else l.getD j d:=by
 simp only[FQ,jT];by_cases h:i=j
 .subst h;by_cases h2:i<l.length
  .simp[h2]
  .simp[h2]
 .simp[h]
theorem Ff{m:aS}{p q:Int}{w:lX}(hp:0<=p/\p<m.1.length)(hq:0<=q):wd (ep m p w) q=if q=p then w else wd m q:=by
 unfold wd ep;dsimp only;rw[LM];by_cases h:q=p
 .subst h;rw[aj ⟨rfl,by omega⟩,aj rfl]
 .rw[af (by omega),af h]
theorem Ig{m:aS}{u:Int}{d:nt}(q:Int):wd (bJ m u d) q=wd m q:=rfl
theorem n5{m:aS}{u t:Int}{d:nt}(hu:0<=u/\u<m.2.1.length)(ht:0<=t):aq (bJ m u d) t=if t=u then d else aq m t:=by
 unfold aq bJ;dsimp only;rw[LM];by_cases h:t=u
 .subst h;rw[aj ⟨rfl,by omega⟩,aj rfl]
 .rw[af (by omega),af h]
theorem qR{m:aG}{u t:Int}{x:cU}(hu:0<=u/\u<m.2.1.length)(ht:0<=t):ai (cA m u x) t=if t=u then x else ai m t:=by
 unfold ai cA;dsimp only;rw[LM];by_cases h:t=u
 .subst h;rw[aj ⟨rfl,by omega⟩,aj rfl]
 .rw[af (by omega),af h]
theorem oZ(m:aG)(u:Int)(x:cU):(cA m u x).2.1.length=m.2.1.length:=by unfold cA;simp
theorem zO{m m':aG}(h:m'.2.1=m.2.1)(t:Int):ai m' t=ai m t:=by unfold ai;rw[h]
theorem Mg(m:aS)(p:Int)(w:lX):(ep m p w).1.length=m.1.length:=by unfold ep;simp
theorem Hu(m:aS)(p:Int)(w:nt):(bJ m p w).2.1.length=m.2.1.length:=by unfold bJ;simp
theorem A0{l:List eu}(h:lJ l){i:Int}(h0:0<=i)(h1:i<l.length):jG l (qi l i).1=qi l i:=by
 have key:∀(l:List eu),lJ l->∀k:Nat,(hk:k<l.length)->l.find? (fun e=>decide (e.1=l[k].1))=some l[k]:=by
  intro l
  induction l with
  | nil=>intro _ k hk;simp at hk
  | cons a l ih=>
   intro hs k hk;rw[lJ,l9]at hs;cases k with
   | zero=>simp
   | succ k=>
    have hk2:k<l.length:=by simpa using hk
    simp only[SA];have:=hs.1 (l[k]'hk2) (ez _);rw[List.find?_cons,show decide (a.1=(l[k]'hk2).1)=false from b7 (by omega)];exact ih hs.2 k hk2
 have hk:i.toNat<l.length:=by omega
 unfold jG qi;rw[qv hk,key l h _ hk];rfl
theorem LS{l:List eu}{i:Int}(h0:0<=i)(h1:i<l.length):qi l i∈l:=by
 have hk:i.toNat<l.length:=by omega
 unfold qi;rw[qv hk];exact ez _
theorem RG{l:List eu}{e:eu}(h:e∈l):∃i:Int,0<=i/\i<l.length/\qi l i=e:=by obtain⟨k,hk,rfl⟩:=nH.1 h;refine⟨(k:Int),by omega,by omega,?_⟩;unfold qi;rw[eB,qv hk]
theorem RF{l:List eu}(h:lJ l){i j:Int}(h0:0<=i)(h1:i<j)(h2:j<l.length):(qi l i).1<(qi l j).1:=by
 have hi:i.toNat<l.length:=by omega
 have hj:j.toNat<l.length:=by omega
 unfold qi;rw[qv hi,qv hj];exact x9.1 h _ _ hi hj (by omega)
theorem abS{l:List eu}(h:lJ l){i j:Int}(h0:0<=i)(h1:i<l.length)(g0:0<=j)(g1:j<l.length)(e:(qi l i).1=(qi l j).1):i=j:=by
 rcases B8 i j with k | k | k
 .have:=RF h h0 k g1;omega
 .exact k
 .have:=RF h g0 k h1;omega
def bC(x:cU)(t:Int):Bool:=match x.2.2.2.2.1 with
 | []=>false
 | h::_=>decide (h.1=t)
structure oh (d:nt) (time:Int):Prop where
 z4:lJ d.2.2.1
 len:d.2.2.1.length<=8
 dQ:∀e∈d.2.2.1,(0<=e.1/\e.1<20)/\(0<=e.2.1/\e.2.1<=1000)/\(0<=e.2.2.1/\e.2.2.1<=1000)
 seq:0<=d.1/\d.1<=time
 st:(d.1=0->d=dD)/\(1<=d.1->1<=d.2.1/\d.2.1<=3)
 rl:d.2.2.2.1.2.1.length<=4
def T4(w:lX):Prop:=w.2.1=0/\w.2.2.1=0/\0<=w.1/\w.1<=1000
def Bz(m:aS)(n:Nat)(own:Int->Prop)(p:Int):Prop:=
 ∃u:Int,0<=u/\u<n/\own u/\wd m p=dM u (aq m u).1/\∃i:Int,0<=i/\i<(aq m u).2.2.1.length/\(qi (aq m u).2.2.1 i).1=p
structure eX (m:aS) (n:Nat) (time:Int) (own:Int->Prop):Prop where
 len:m.1.length=20
 dw:m.2.1.length=n
 dy:∀t:Int,0<=t->t<n->oh (aq m t) time
 word:∀p:Int,0<=p->p<20->T4 (wd m p)\/Bz m n own p
 jN:∀t:Int,0<=t->t<n->(aq m t).2.1=1->own t
 kV:∀t:Int,0<=t->t<n->own t->1<=(aq m t).1
 pre:∀t:Int,0<=t->t<n->(aq m t).2.1=1->∀i j:Int,0<=i->i<j->j<(aq m t).2.2.1.length->wd m (qi (aq m t).2.2.1 j).1=dM t (aq m t).1->wd m (qi (aq m t).2.2.1 i).1=dM t (aq m t).1
structure bV (m:aS) (n:Nat) (h:gv):Prop where
 t:0<=h.1/\h.1<n
 seq:1<=h.2.1/\h.2.1<=(aq m h.1).1
 rU:0<=h.2.2.1/\h.2.2.1<=8
 fin:0<=h.2.2.2.1/\h.2.2.2.1<=8
 cur:h.2.1=(aq m h.1).1->h.2.2.1<=(aq m h.1).2.2.1.length/\h.2.2.2.1<=(aq m h.1).2.2.1.length/\
  ((aq m h.1).2.1=1->h.2.2.2.1=0/\∀i:Int,0<=i->i<h.2.2.1->wd m (qi (aq m h.1).2.2.1 i).1=dM h.1 h.2.1)/\
  ((aq m h.1).2.1≠1->∀i:Int,0<=i->i<h.2.2.2.1->wd m (qi (aq m h.1).2.2.1 i).1≠dM h.1 h.2.1)
theorem tE{a b s r:Int}(h:dM a s=dM b r):a=b/\s=r:=by simp only[dM,aY]at h;omega
theorem vf{w:lX}(h:w.2.1=0){a s:Int}(ha:0<=a):w≠dM a s:=fun e=>by rw[e]at h;simp only[dM]at h;omega
theorem eX.gU{m:aS}{n:Nat}{time:Int}{own:Int->Prop}(I:eX m n time own){t i:Int}(h0:0<=t)(h1:t<n)(i0:0<=i)(i1:i<(aq m t).2.2.1.length) :
  (0<=(qi (aq m t).2.2.1 i).1/\(qi (aq m t).2.2.1 i).1<20)/\(0<=(qi (aq m t).2.2.1 i).2.1/\(qi (aq m t).2.2.1 i).2.1<=1000)/\(0<=(qi (aq m t).2.2.1 i).2.2.1/\(qi (aq m t).2.2.1 i).2.2.1<=1000):=
 (I.dy t h0 h1).dQ _ (LS i0 i1)
theorem eX.IZ{m:aS}{n:Nat}{time:Int}{own:Int->Prop}(I:eX m n time own){t:Int}(h0:0<=t)(h1:t<n)(hs:(aq m t).2.1≠0):1<=(aq m t).1:=by
 have:=(I.dy t h0 h1).seq;by_cases h:(aq m t).1=0
 .exact absurd (by rw[((I.dy t h0 h1).st.1 h)];rfl) hs
 .omega
theorem uZ{m:aS}{p:Int}(h:(wd m p).2.1=0):fX m p=(wd m p).1:=by unfold fX;rw[aj h]
theorem zP{m:aS}{u p:Int}(hu:0<=u)(h:wd m p=dM u (aq m u).1):fX m p=if (aq m u).2.1=2 then (jG (aq m u).2.2.1 p).2.2.1 else (jG (aq m u).2.2.1 p).2.1:=by
 have e1:(wd m p).2.1=u+1:=by rw[h];rfl
 have e2:(wd m p).2.2.1=(aq m u).1:=by rw[h];rfl
 have e3:(wd m p).2.1-1=u:=by omega
 unfold fX;rw[af (by omega),e3,e2];by_cases h2:(aq m u).2.1=2
 .rw[aj ⟨rfl,h2⟩,aj h2]
 .rw[af (fun q=>h2 q.2),af h2]
theorem eX.kU{m:aS}{n:Nat}{time:Int}{own lS:Int->Prop}(I:eX m n time own)(h:∀t:Int,0<=t->t<n->(own t↔lS t)):eX m n time lS where
 len:=I.len
 dw:=I.dw
 dy:=I.dy
 word:=fun p h0 h1=>(I.word p h0 h1).imp id fun⟨u,a,b,c,d⟩=>⟨u,a,b,(h u a b).1 c,d⟩
 jN:=fun t a b c=>(h t a b).1 (I.jN t a b c)
 kV:=fun t a b c=>I.kV t a b ((h t a b).2 c)
 pre:=I.pre
theorem oh.mono{d:nt}{a b:Int}(h:oh d a)(hab:a<=b):oh d b:=⟨h.z4,h.len,h.dQ,⟨h.seq.1,by have:=h.seq.2;omega⟩,h.st,h.rl⟩
theorem eX.C6{m:aS}{n:Nat}{time time':Int}{own:Int->Prop}(I:eX m n time own)(h:time<=time'):eX m n time' own:=⟨I.len,I.dw,fun t a b=>(I.dy t a b).mono h,I.word,I.jN,I.kV,I.pre⟩
theorem Rf{m:aS}{n:Nat}{time:Int}{own:Int->Prop}(I:eX m n time own){t:Int}(h0:0<=t)(hn:¬ own t){p:Int}(p0:0<=p)(p1:p<20)(s:Int):wd m p≠dM t s:=by
 intro e;rcases I.word p p0 p1 with h | ⟨u,a,b,c,d,_⟩
 .exact vf h.1 h0 e
 .rw[e]at d;obtain⟨rfl,_⟩:=tE d;exact hn c
section
variable {m:aS} {n:Nat} {time:Int} {own:Int->Prop} (I:eX m n time own) {u:Int} (u0:0<=u) (u1:u<n)
include I u0 u1
theorem EZ{i:Int}(hs:(aq m u).2.1=1)(i0:0<=i)(i1:i<(aq m u).2.2.1.length)(hw:(wd m (qi (aq m u).2.2.1 i).1).2.1=0)(hold:(wd m (qi (aq m u).2.2.1 i).1).1=(qi (aq m u).2.2.1 i).2.1)
  (hb:∀j:Int,0<=j->j<i->wd m (qi (aq m u).2.2.1 j).1=dM u (aq m u).1) :
  eX (ep m (qi (aq m u).2.2.1 i).1 (dM u (aq m u).1)) n time own/\(∀p:Int,0<=p->p<20->fX (ep m (qi (aq m u).2.2.1 i).1 (dM u (aq m u).1)) p=fX m p)/\
  (∀h,bV m n h->bV (ep m (qi (aq m u).2.2.1 i).1 (dM u (aq m u).1)) n h):=by
 have he:=I.gU u0 u1 i0 i1;have oO:=(I.dy u u0 u1).z4;have hlen:=I.len;have rZ:=A0 oO i0 i1;generalize hp:(qi (aq m u).2.2.1 i).1=P at *;have mE:∀q,0<=q->wd (ep m P (dM u (aq m u).1)) q=if q=P then dM u (aq m u).1 else wd m q:=fun q hq=>Ff (by omega) hq
 have hd:∀t,aq (ep m P (dM u (aq m u).1)) t=aq m t:=fun t=>rfl;have hkeep:∀q t s,0<=t->0<=q->wd m q=dM t s->wd (ep m P (dM u (aq m u).1)) q=dM t s:=by
  intro q t s t0 q0 e;rw[mE q q0];by_cases h:q=P
  .subst h;exact absurd e (vf hw t0)
  .rw[af h];exact e
 have hnm:∀q t,0<=q->t≠u->wd (ep m P (dM u (aq m u).1)) q=dM t (aq m t).1->wd m q=dM t (aq m t).1:=by
  intro q t q0 tu e;rw[mE q q0]at e;by_cases h:q=P
  .rw[aj h]at e;exact absurd (tE e).1.symm tu
  .rw[af h]at e;exact e
 refine⟨⟨by rw[Mg];exact I.len,I.dw,I.dy,?_,I.jN,I.kV,?_⟩,?_,?_⟩
 .intro p p0 p1;unfold Bz;rw[mE p p0];by_cases h:p=P
  .subst h;rw[aj rfl];exact .inr ⟨u,u0,u1,I.jN u u0 u1 hs,rfl,i,i0,i1,hp⟩
  .rw[af h];exact I.word p p0 p1
 .intro t t0 t1 ts a b a0 ab b1 e;rw[hd] at *;have Ad:=I.gU t0 t1 a0 (by omega:a<_);have Ui:=I.gU t0 t1 (by omega:0<=b) b1;by_cases htu:t=u
  .subst htu;rw[mE _ Ui.1.1]at e;by_cases h:(qi (aq m t).2.2.1 b).1=P
   .have Ue:b=i:=abS oO (by omega) b1 i0 i1 (by rw[h,hp]);exact hkeep _ _ _ t0 Ad.1.1 (hb a a0 (by omega))
   .rw[af h]at e;exact hkeep _ _ _ t0 Ad.1.1 (I.pre t t0 t1 ts a b a0 ab b1 e)
  .exact hkeep _ _ _ t0 Ad.1.1 (I.pre t t0 t1 ts a b a0 ab b1 (hnm _ t Ui.1.1 htu e))
 .intro p p0 p1;by_cases h:p=P
  .subst h;rw[uZ hw,zP u0 (by rw[mE p p0,aj rfl,hd]),hd,af (by omega),rZ,hold]
  .unfold fX;rw[mE p p0,af h];rfl
 .intro h H;refine⟨H.t,H.seq,H.rU,H.fin,fun e=>?_⟩;obtain⟨a,b,c,d⟩:=H.cur e;refine⟨a,b,fun hs'=>⟨(c hs').1,fun j j0 j1=>?_⟩,fun hs' j j0 j1=>?_⟩
  .exact hkeep _ _ _ H.t.1 (I.gU H.t.1 H.t.2 j0 (by omega)).1.1 ((c hs').2 j j0 j1)
  .intro q;have hne:h.1≠u:=fun e2=>hs' (by rw[hd,e2];exact hs);have hj:=I.gU H.t.1 H.t.2 j0 (show j<_ by omega);have e':h.2.1=(aq m h.1).1:=e;rw[hd,e']at q;exact d hs' j j0 j1 (by rw[e'];exact hnm _ _ hj.1.1 hne q)
theorem MU{i:Int}(hs:(aq m u).2.1≠1)(i0:0<=i)(i1:i<(aq m u).2.2.1.length)(hw:wd m (qi (aq m u).2.2.1 i).1=dM u (aq m u).1) :
  eX (ep m (qi (aq m u).2.2.1 i).1 (if (aq m u).2.1=2 then (qi (aq m u).2.2.1 i).2.2.1 else (qi (aq m u).2.2.1 i).2.1,0,0,())) n time own/\
  (∀p:Int,0<=p->p<20->fX (ep m (qi (aq m u).2.2.1 i).1 (if (aq m u).2.1=2 then (qi (aq m u).2.2.1 i).2.2.1 else (qi (aq m u).2.2.1 i).2.1,0,0,())) p=fX m p)/\
  (∀h,bV m n h->bV (ep m (qi (aq m u).2.2.1 i).1 (if (aq m u).2.1=2 then (qi (aq m u).2.2.1 i).2.2.1 else (qi (aq m u).2.2.1 i).2.1,0,0,())) n h):=by
 have he:=I.gU u0 u1 i0 i1;have oO:=(I.dy u u0 u1).z4;have hlen:=I.len;have rZ:=A0 oO i0 i1;have hv:0<=(if (aq m u).2.1=2 then (qi (aq m u).2.2.1 i).2.2.1 else (qi (aq m u).2.2.1 i).2.1)/\(if (aq m u).2.1=2 then (qi (aq m u).2.2.1 i).2.2.1 else (qi (aq m u).2.2.1 i).2.1)<=1000:=by split<;>omega
 have hval:fX m (qi (aq m u).2.2.1 i).1=(if (aq m u).2.1=2 then (qi (aq m u).2.2.1 i).2.2.1 else (qi (aq m u).2.2.1 i).2.1):=by rw[zP u0 hw,rZ]
 generalize (if (aq m u).2.1=2 then (qi (aq m u).2.2.1 i).2.2.1 else (qi (aq m u).2.2.1 i).2.1)=v at *;generalize hp:(qi (aq m u).2.2.1 i).1=P at *;have mE:∀q,0<=q->wd (ep m P (v,0,0,())) q=if q=P then (v,0,0,()) else wd m q:=fun q hq=>Ff (by omega) hq
 have hd:∀t,aq (ep m P (v,0,0,())) t=aq m t:=fun t=>rfl;have hkeep:∀q t,t≠u->0<=q->wd m q=dM t (aq m t).1->wd (ep m P (v,0,0,())) q=dM t (aq m t).1:=by
  intro q t tu q0 e;rw[mE q q0];by_cases h:q=P
  .subst h;rw[hw]at e;exact absurd (tE e).1.symm tu
  .rw[af h];exact e
 have eR:∀q t s,0<=t->0<=q->wd (ep m P (v,0,0,())) q=dM t s->wd m q=dM t s:=by
  intro q t s t0 q0 e;rw[mE q q0]at e;by_cases h:q=P
  .rw[aj h]at e;exact absurd e (vf rfl t0)
  .rw[af h]at e;exact e
 refine⟨⟨by rw[Mg];exact I.len,I.dw,I.dy,?_,I.jN,I.kV,?_⟩,?_,?_⟩
 .intro p p0 p1;unfold Bz;rw[mE p p0];by_cases h:p=P
  .rw[aj h];exact .inl ⟨rfl,rfl,hv.1,hv.2⟩
  .rw[af h];exact I.word p p0 p1
 .intro t t0 t1 ts a b a0 ab b1 e;rw[hd] at *;have Ad:=I.gU t0 t1 a0 (by omega:a<_);have Ui:=I.gU t0 t1 (by omega:0<=b) b1;have htu:t≠u:=fun e2=>hs (by rw[<-e2];exact ts);exact hkeep _ _ htu Ad.1.1 (I.pre t t0 t1 ts a b a0 ab b1 (eR _ t _ t0 Ui.1.1 e))
 .intro p p0 p1;by_cases h:p=P
  .subst h;rw[hval,uZ (by rw[mE p p0,aj rfl]),mE p p0,aj rfl]
  .unfold fX;rw[mE p p0,af h];rfl
 .intro h H;refine⟨H.t,H.seq,H.rU,H.fin,fun e=>?_⟩;obtain⟨a,b,c,d⟩:=H.cur e;refine⟨a,b,fun hs'=>⟨(c hs').1,fun j j0 j1=>?_⟩,fun hs' j j0 j1 q=>?_⟩
  .have hne:h.1≠u:=fun e2=>hs (by rw[<-e2];exact hs');have hj:=I.gU H.t.1 H.t.2 j0 (show j<_ by omega);have e':h.2.1=(aq m h.1).1:=e;have:=(c hs').2 j j0 j1;rw[e']at this;show wd _ (qi (aq m h.1).2.2.1 j).1=_;rw[e'];exact hkeep _ _ hne hj.1.1 this
  .exact d hs' j j0 j1 (eR _ _ _ H.t.1 (I.gU H.t.1 H.t.2 j0 (show j<_ by omega)).1.1 q)
theorem HU{c:Int}(hs:(aq m u).2.1=1)(hc:c=2\/c=3) :
  eX (bJ m u ((aq m u).1,c,(aq m u).2.2)) n time own/\(∀h,bV m n h->bV (bJ m u ((aq m u).1,c,(aq m u).2.2)) n h)/\
  (∀p:Int,0<=p->p<20->fX (bJ m u ((aq m u).1,c,(aq m u).2.2)) p=if c=2/\wd m p=dM u (aq m u).1 then (jG (aq m u).2.2.1 p).2.2.1 else fX m p):=by
 have me:=I.dw;have hd:∀t:Int,0<=t->aq (bJ m u ((aq m u).1,c,(aq m u).2.2)) t=if t=u then ((aq m u).1,c,(aq m u).2.2) else aq m t:=fun t t0=>n5 (by omega) t0
 have tZ:∀t:Int,0<=t->(aq (bJ m u ((aq m u).1,c,(aq m u).2.2)) t).1=(aq m t).1:=by
  intro t t0;rw[hd t t0];split
  .next h=>rw[h]
  .rfl
 have Uf:∀t:Int,0<=t->(aq (bJ m u ((aq m u).1,c,(aq m u).2.2)) t).2.2=(aq m t).2.2:=by
  intro t t0;rw[hd t t0];split
  .next h=>rw[h]
  .rfl
 have wM:∀t:Int,0<=t->(aq (bJ m u ((aq m u).1,c,(aq m u).2.2)) t).2.1=if t=u then c else (aq m t).2.1:=by intro t t0;rw[hd t t0];split<;>rfl
 refine⟨⟨I.len,by rw[Hu];exact I.dw,?_,?_,?_,?_,?_⟩,?_,?_⟩
 .intro t t0 t1;rw[hd t t0];have D:=I.dy t t0 t1;split
  .next h=>subst h;have hq:=I.IZ t0 t1 (by omega);exact⟨D.z4,D.len,D.dQ,D.seq,⟨fun e=>by dsimp only at e;omega,fun _=>by dsimp only;omega⟩,D.rl⟩
  .exact D
 .intro p p0 p1;rcases I.word p p0 p1 with h | ⟨v,a,b,c',d,i,e⟩
  .exact .inl h
  .refine .inr ⟨v,a,b,c',?_,i,?_⟩
   .rw[tZ v a];exact d
   .rw[Uf v a];exact e
 .intro t t0 t1 e;rw[wM t t0]at e;split at e
  .omega
  .exact I.jN t t0 t1 e
 .intro t t0 t1 e;rw[tZ t t0];exact I.kV t t0 t1 e
 .intro t t0 t1 e;rw[wM t t0]at e;split at e
  .omega
  .rw[Uf t t0,tZ t t0];exact I.pre t t0 t1 e
 .intro h H;have h0:=H.t.1;have oT:=H.seq;refine⟨H.t,by rw[tZ _ h0];exact H.seq,H.rU,H.fin,fun e=>?_⟩;rw[tZ _ h0]at e;obtain⟨a,b,x,y⟩:=H.cur e;rw[Uf _ h0,wM _ h0];refine⟨a,b,fun hs'=>?_,fun hs'=>?_⟩
  .by_cases hu:h.1=u
   .rw[aj hu]at hs';omega
   .rw[af hu]at hs';exact x hs'
  .by_cases hu:h.1=u
   .have:=(x (by rw[hu];exact hs)).1;intro i i0 i1;omega
   .rw[af hu]at hs';exact y hs'
 .intro p p0 p1;rcases I.word p p0 p1 with h | ⟨v,a,b,c',d,i,i0,i1,e⟩
  .rw[af (fun q=>vf h.1 u0 q.2),uZ (m:=m) h.1,uZ (m:=bJ m u _) h.1];rfl
  .rw[zP (m:=m) a d,zP (m:=bJ m u _) a (by rw[tZ v a];exact d),wM v a,Uf v a];by_cases hv:v=u
   .subst hv;rw[aj rfl,hs,af (show ¬ (1:Int)=2 by decide)];by_cases c2:c=2
    .rw[aj c2,aj ⟨c2,d⟩]
    .rw[af c2,af (fun q=>c2 q.1)]
   .rw[af hv,af (show ¬ (c=2/\_) from fun q=>hv (tE (d.symm.trans q.2)).1)]
end
theorem akX{m:aS}{n:Nat}{time:Int}{own lS:Int->Prop}(I:eX m n time own){u:Int}(u0:0<=u)(u1:u<n)(hno:¬ own u)(ho:lS u)(KW:∀t:Int,0<=t->t≠u->(own t↔lS t)){E:List eu}{r:fC}
  (hE:lJ E) (hl:E.length<=8) (hr:∀e∈E,(0<=e.1/\e.1<20)/\(0<=e.2.1/\e.2.1<=1000)/\(0<=e.2.2.1/\e.2.2.1<=1000)) (ht:(aq m u).1+1<=time) (hrl:r.2.1.length<=4) :
  eX (bJ m u ((aq m u).1+1,1,E,r,())) n time lS/\(∀h,bV m n h->bV (bJ m u ((aq m u).1+1,1,E,r,())) n h)/\
  (∀p:Int,0<=p->p<20->fX (bJ m u ((aq m u).1+1,1,E,r,())) p=fX m p):=by
 have me:=I.dw;have hd:∀t:Int,0<=t->aq (bJ m u ((aq m u).1+1,1,E,r,())) t=if t=u then ((aq m u).1+1,1,E,r,()) else aq m t:=fun t t0=>n5 (by omega) t0
 have Ac:=(hd u u0).trans (aj rfl);have i_:∀t:Int,0<=t->t≠u->aq (bJ m u ((aq m u).1+1,1,E,r,())) t=aq m t:=fun t t0 h=>(hd t t0).trans (af h);have W9:=fun {p:Int} (p0:0<=p) (p1:p<20) (s:Int)=>Rf I u0 hno p0 p1 s;have D:=I.dy u u0 u1;refine⟨⟨I.len,by rw[Hu];exact I.dw,?_,?_,?_,?_,?_⟩,?_,?_⟩
 .intro t t0 t1;by_cases h:t=u
  .subst h;rw[Ac];have:=D.seq;exact⟨hE,hl,hr,⟨by dsimp only;omega,ht⟩,⟨fun e=>by dsimp only at e;omega,fun _=>by dsimp only;omega⟩,hrl⟩
  .rw[i_ t t0 h];exact I.dy t t0 t1
 .intro p p0 p1;rcases I.word p p0 p1 with h | ⟨v,a,b,c',d,i,e⟩
  .exact .inl h
  .have hv:v≠u:=fun q=>hno (q ▸ c');refine .inr ⟨v,a,b,(KW v a hv).1 c',?_,i,?_⟩
   .rw[i_ v a hv];exact d
   .rw[i_ v a hv];exact e
 .intro t t0 t1 e;by_cases h:t=u
  .rw[h];exact ho
  .rw[i_ t t0 h]at e;exact(KW t t0 h).1 (I.jN t t0 t1 e)
 .intro t t0 t1 e;have:=D.seq;by_cases h:t=u
  .rw[h,Ac];dsimp only;omega
  .rw[i_ t t0 h];exact I.kV t t0 t1 ((KW t t0 h).2 e)
 .intro t t0 t1 e i j i0 ij j1 hj;by_cases h:t=u
  .subst h;rw[Ac]at hj j1;dsimp only at hj j1;have:=hr _ (LS (show 0<=j by omega) j1);exact absurd hj (W9 this.1.1 this.1.2 _)
  .rw[i_ t t0 h]at e j1 hj⊢;exact I.pre t t0 t1 e i j i0 ij j1 hj
 .intro h H;have hs:=H.seq;by_cases hu:h.1=u
  .have hs':=H.seq;rw[hu]at hs';refine⟨H.t,by rw[hu,Ac];dsimp only;omega,H.rU,H.fin,fun e=>?_⟩;rw[hu,Ac]at e;dsimp only at e;omega
  .refine⟨H.t,by rw[i_ _ H.t.1 hu];exact H.seq,H.rU,H.fin,?_⟩;rw[i_ _ H.t.1 hu];exact H.cur
 .intro p p0 p1;rcases I.word p p0 p1 with h | ⟨v,a,b,c',d,i,e⟩
  .rw[uZ (m:=m) h.1,uZ (m:=bJ m u _) h.1];rfl
  .have hv:v≠u:=fun q=>hno (q ▸ c');rw[zP (m:=m) a d,zP (m:=bJ m u _) a (by rw[i_ v a hv];exact d),i_ v a hv]
def ay(l:List gf)(k:Int):gf:=l.getD k.toNat dC
def v8(l:List gf)(t:Int):Nat:=(l.filter fun c=>decide (c.1=t/\0<=c.2.2.2.2.1)).length
structure DJ (c:gf) (n:Nat) (time:Int):Prop where
 t:0<=c.1/\c.1<n
 op:dh c.2.1=true
 start:0<=c.2.2.1/\c.2.2.1<=time
 qE:c.2.2.2.1 = -1\/c.2.2.1<=c.2.2.2.1/\c.2.2.2.1<=time
 fin:c.2.2.2.2.1 = -1\/0<=c.2.2.2.1/\c.2.2.2.1<=c.2.2.2.2.1/\c.2.2.2.2.1<=time
 len:c.2.2.2.2.2.1.2.1.length<=4
structure f6 (l:List gf) (t k:Int):Prop where
 dQ:0<=k/\k<l.length
 t:(ay l k).1=t
 fin:(ay l k).2.2.2.2.1 = -1
structure gl (l:List gf) (ord:List Int) (n:Nat) (time:Int) (on:Int->Bool) (pc:Int->Int) (op:Int->cK) (yes:Int->Option fC):Prop where
 c:∀k:Int,0<=k->k<l.length->DJ (ay l k) n time
 before:∀j k:Int,0<=j->j<k->k<l.length->(ay l j).1=(ay l k).1->0<=(ay l j).2.2.2.2.1/\(ay l j).2.2.2.2.1<(ay l k).2.2.1
 cnt:∀t:Int,0<=t->t<n->(v8 l t:Int)=pc t
 jN:∀t:Int,0<=t->t<n->on t=true->∃k,f6 l t k/\(ay l k).2.1=op t
 off:∀t:Int,0<=t->t<n->on t=false->∀k:Int,0<=k->k<l.length->(ay l k).1=t->0<=(ay l k).2.2.2.2.1
 qE:∀t k:Int,0<=t->t<n->f6 l t k->(yes t=none->(ay l k).2.2.2.1 = -1)/\(∀r,yes t=some r->0<=(ay l k).2.2.2.1/\(ay l k).2.2.2.2.2.1=r)
 gI:∀k∈ord,0<=k/\k<l.length/\0<=(ay l k).2.2.2.1
 nodup:ord.Nodup
 sort:ord.Pairwise fun a b=>(ay l a).2.2.2.1<=(ay l b).2.2.2.1
 all:∀k:Int,0<=k->k<l.length->0<=(ay l k).2.2.2.1->k∈ord
theorem HB{l:List gf}{c:gf}{k:Int}(h:0<=k):ay (l++[c]) k=if k<l.length then ay l k else if k=l.length then c else dC:=by
 unfold ay;simp only[FQ,List.getElem?_append];by_cases h1:k<l.length
 .rw[aj (by omega),aj h1]
 .rw[af (by omega),af h1];by_cases h2:k=l.length
  .rw[aj h2,show k.toNat-l.length=0 by omega];rfl
  .rw[af h2];have:k.toNat-l.length≠0:=by omega
   obtain⟨q,hq⟩:=Nat.exists_eq_succ_of_ne_zero this;rw[hq];rfl
theorem Dx{l:List gf}{c:gf}{i k:Int}(hi:0<=i/\i<l.length)(h:0<=k):ay (l.set i.toNat c) k=if k=i then c else ay l k:=by
 unfold ay;rw[LM];by_cases h1:k=i
 .subst h1;rw[aj ⟨rfl,by omega⟩,aj rfl]
 .rw[af (by omega),af h1]
theorem QF(l:List gf)(c:gf)(t:Int):v8 (l++[c]) t=v8 l t+(if c.1=t/\0<=c.2.2.2.2.1 then 1 else 0):=by
 unfold v8;rw[List.filter_append,cT];by_cases h:c.1=t/\0<=c.2.2.2.2.1
 .rw[aj h];simp[h]
 .rw[af h,show List.filter (fun c=>decide (c.1=t/\0<=c.2.2.2.2.1)) [c]=[] by simp only[Ca,List.filter_nil];rw[b7 h];rfl];rfl
theorem QG(l:List gf)(c:gf)(t:Int):∀(i:Nat)(h:i<l.length),v8 (l.set i c) t+(if l[i].1=t/\0<=l[i].2.2.2.2.1 then 1 else 0)=v8 l t+(if c.1=t/\0<=c.2.2.2.2.1 then 1 else 0):=by
 induction l with
 | nil=>intro i h;simp at h
 | cons a l ih=>
  intro i h;have hc:∀(x:gf)(l:List gf),v8 (x::l) t=(if x.1=t/\0<=x.2.2.2.2.1 then 1 else 0)+v8 l t:=by
   intro x l;unfold v8;rw[Ca];by_cases hx:x.1=t/\0<=x.2.2.2.2.1
   .rw[aj hx,bz hx,aj rfl,ct];omega
   .rw[af hx,b7 hx,af (by simp)];omega
  cases i with
  | zero=>simp only[B6,SB];rw[hc,hc];omega
  | succ i=>simp only[FD,SA];have:=ih i (by simpa using h);rw[hc,hc];omega
section
variable {l:List gf} {ord:List Int} {n:Nat} {time:Int} {on:Int->Bool} {pc:Int->Int} {op:Int->cK} {yes:Int->Option fC} (I:gl l ord n time on pc op yes)
include I
theorem gl.uniq{t i k:Int}(hi:f6 l t i)(hk:f6 l t k):i=k:=by
 rcases B8 i k with h | h | h
 .have:=(I.before i k hi.dQ.1 h hk.dQ.2 (hi.t.trans hk.t.symm)).1;have:=hi.fin;omega
 .exact h
 .have:=(I.before k i hk.dQ.1 h hi.dQ.2 (hk.t.trans hi.t.symm)).1;have:=hk.fin;omega
theorem gl.tq{t k:Int}(hk:f6 l t k):∀j:Nat,j<=l.length->qS l t j=if k<j then k else -1
 | 0,_=>by rw[af (by have:=hk.dQ;omega)];rfl
 | j+1,hj=>by
  simp only[qS];by_cases h:(l.getD j dC).1=t/\(l.getD j dC).2.2.2.2.1<0
  .rw[aj h];have h1:=(I.c (j:Int) (by omega) (by omega)).fin;have e:ay l (j:Int)=l.getD j dC:=by unfold ay;rw[eB]
   rw[e]at h1;have:f6 l t (j:Int):=⟨⟨by omega,by omega⟩,by rw[e];exact h.1,by rw[e];omega⟩
   have:=I.uniq this hk;rw[aj (by omega)];exact this
  .rw[af h,gl.tq hk j (by omega)];by_cases h2:k<j
   .rw[aj h2,aj (by omega)]
   .rw[af h2,af];intro h3;have e:k=(j:Int):=by omega
    have h4:=hk.t;have h5:=hk.fin
    rw[e]at h4 h5;unfold ay at h4 h5;rw[eB]at h4 h5;exact h ⟨h4,by omega⟩
theorem gl.ni{t k:Int}(hk:f6 l t k):kF l t=k:=by unfold kF;rw[I.tq hk _ (cq _),aj hk.dQ.2]
theorem gl.same{on':Int->Bool}{Jk:Int->Int}{op':Int->cK}{oa:Int->Option fC}{time':Int}(ht:time<=time')
  (h:∀t:Int,0<=t->t<n->on' t=on t/\Jk t=pc t/\op' t=op t/\oa t=yes t):gl l ord n time' on' Jk op' oa where
 c:=fun k a b=>by
  have:=I.c k a b;exact⟨this.t,this.op,⟨this.start.1,by have:=this.start.2;omega⟩,this.qE.imp id fun q=>⟨q.1,by omega⟩,this.fin.imp id fun q=>⟨q.1,q.2.1,by omega⟩,this.len⟩
 before:=I.before
 cnt:=fun t a b=>by rw[(h t a b).2.1];exact I.cnt t a b
 jN:=fun t a b e=>by rw[(h t a b).2.2.1];exact I.jN t a b (by rw[<-(h t a b).1];exact e)
 off:=fun t a b e=>I.off t a b (by rw[<-(h t a b).1];exact e)
 qE:=fun t k a b hk=>by rw[(h t a b).2.2.2];exact I.qE t k a b hk
 gI:=I.gI
 nodup:=I.nodup
 sort:=I.sort
 all:=I.all
theorem gl.zi{u:Int}(u0:0<=u)(u1:u<n)(hoff:on u=false)(hop:dh (op u)=true)(hy:yes u=none){on':Int->Bool}(oA:on' u=true)(w5:∀t:Int,0<=t->t≠u->on' t=on t)(ht:0<=time) :
  gl (l++[(u,op u,time+1,-1,-1,(0,[],()),())]) ord n (time+1) on' pc op yes:=by
 have hlen:(l++[((u,op u,time+1,-1,-1,(0,[],()),()):gf)]).length=l.length+1:=by simp
 have hg:∀k:Int,0<=k->k<l.length->ay (l++[(u,op u,time+1,-1,-1,(0,[],()),())]) k=ay l k:=fun k a b=>by rw[HB a,aj b]
 have hn:ay (l++[(u,op u,time+1,-1,-1,(0,[],()),())]) l.length=(u,op u,time+1,-1,-1,(0,[],()),()):=by rw[HB (by omega),af (by omega),aj rfl]
 have hold:∀t k,f6 (l++[(u,op u,time+1,-1,-1,(0,[],()),())]) t k->(k<l.length/\f6 l t k)\/(k=l.length/\t=u):=by
  intro t k hk;have hk2:=hk.dQ;rw[hlen]at hk2;by_cases h:k<l.length
  .have h1:=hk.t;have h2:=hk.fin
   rw[hg k hk2.1 h]at h1 h2;exact .inl ⟨h,⟨hk2.1,h⟩,h1,h2⟩
  .have e:k=l.length:=by omega
   have h1:=hk.t;rw[e,hn]at h1;exact .inr ⟨e,h1.symm⟩
 refine⟨?_,?_,?_,?_,?_,?_,?_,I.nodup,?_,?_⟩
 .intro k a b;rw[hlen]at b;by_cases h:k<l.length
  .rw[hg k a h];have:=I.c k a h;exact⟨this.t,this.op,⟨this.start.1,by have:=this.start.2;omega⟩,this.qE.imp id fun q=>⟨q.1,by omega⟩,this.fin.imp id fun q=>⟨q.1,q.2.1,by omega⟩,this.len⟩
  .rw[show k=(l.length:Int) by omega,hn];exact⟨⟨u0,u1⟩,hop,⟨by dsimp only;omega,by dsimp only;omega⟩,.inl rfl,.inl rfl,by simp⟩
 .intro j k a b d e;rw[hlen]at d;have hj:=hg j a (by omega);by_cases h:k<l.length
  .have hk:=hg k (by omega) h;rw[hj,hk]at e;rw[hj,hk];exact I.before j k a b h e
  .have ek:k=(l.length:Int):=by omega
   rw[ek,hn,hj]at e;rw[ek,hn,hj];dsimp only at e⊢;have h1:=I.off u u0 u1 hoff j a (by omega) e;have h2:=(I.c j a (by omega)).fin;exact⟨by omega,by omega⟩
 .intro t a b;rw[QF,af (fun q=>by have:=q.2;dsimp only at this;omega),qQ];exact I.cnt t a b
 .intro t a b e;by_cases h:t=u
  .subst h;exact⟨l.length,⟨⟨by omega,by omega⟩,by rw[hn],by rw[hn]⟩,by rw[hn]⟩
  .rw[w5 t a h]at e;obtain⟨k,hk,h2⟩:=I.jN t a b e;exact⟨k,⟨⟨hk.dQ.1,by have:=hk.dQ.2;omega⟩,by rw[hg k hk.dQ.1 hk.dQ.2];exact hk.t,by rw[hg k hk.dQ.1 hk.dQ.2];exact hk.fin⟩,by rw[hg k hk.dQ.1 hk.dQ.2];exact h2⟩
 .intro t a b e k k0 k1 hk;have hne:t≠u:=fun q=>by rw[q,oA]at e;exact absurd e (by simp)
  rw[hlen]at k1;by_cases h:k<l.length
  .rw[hg k k0 h] at *;exact I.off t a b (by rw[<-w5 t a hne];exact e) k k0 h hk
  .rw[show k=(l.length:Int) by omega,hn]at hk;exact absurd hk.symm hne
 .intro t k a b hk;rcases hold t k hk with⟨h,h2⟩ | ⟨rfl,rfl⟩
  .rw[hg k hk.dQ.1 h];exact I.qE t k a b h2
  .rw[hn,hy];exact⟨fun _=>rfl,fun r q=>(by cases q)⟩
 .intro k hk;have:=I.gI k hk;rw[hg k this.1 this.2.1];exact⟨this.1,by omega,this.2.2⟩
 .exact I.sort.imp_of_mem fun {a b} ha hb hab=>by
   have h1:=I.gI a ha;have h2:=I.gI b hb
   rw[hg a h1.1 h1.2.1,hg b h2.1 h2.2.1];exact hab
 .intro k a b e;rw[hlen]at b;by_cases h:k<l.length
  .rw[hg k a h]at e;exact I.all k a h e
  .rw[show k=(l.length:Int) by omega,hn]at e;dsimp only at e;omega
theorem gl.so{u k:Int}(u0:0<=u)(u1:u<n)(hk:f6 l u k)(hy:yes u=none){r:fC}(hr:r.2.1.length<=4){oa:Int->Option fC}(h1:oa u=some r)(h2:∀t:Int,0<=t->t≠u->oa t=yes t) :
  gl (l.set k.toNat ((ay l k).1,(ay l k).2.1,(ay l k).2.2.1,time,(ay l k).2.2.2.2.1,r,())) (ord++[k]) n time on pc op oa:=by
 have k0:=hk.dQ.1;have k1:=hk.dQ.2;have Ah:(ay l k).2.2.2.1 = -1:=(I.qE u k u0 u1 hk).1 hy;have kM:=hk.fin;have hc:=I.c k k0 k1;have hst:=hc.start;have hg:∀j:Int,0<=j->ay (l.set k.toNat ((ay l k).1,(ay l k).2.1,(ay l k).2.2.1,time,(ay l k).2.2.2.2.1,r,())) j=if j=k then ((ay l k).1,(ay l k).2.1,(ay l k).2.2.1,time,(ay l k).2.2.2.2.1,r,()) else ay l j:=fun j hj=>Dx hk.dQ hj
 have g1:∀j:Int,0<=j->(ay (l.set k.toNat ((ay l k).1,(ay l k).2.1,(ay l k).2.2.1,time,(ay l k).2.2.2.2.1,r,())) j).1=(ay l j).1:=fun j hj=>by rw[hg j hj];split<;>simp_all
 have g2:∀j:Int,0<=j->(ay (l.set k.toNat ((ay l k).1,(ay l k).2.1,(ay l k).2.2.1,time,(ay l k).2.2.2.2.1,r,())) j).2.1=(ay l j).2.1:=fun j hj=>by rw[hg j hj];split<;>simp_all
 have g3:∀j:Int,0<=j->(ay (l.set k.toNat ((ay l k).1,(ay l k).2.1,(ay l k).2.2.1,time,(ay l k).2.2.2.2.1,r,())) j).2.2.1=(ay l j).2.2.1:=fun j hj=>by rw[hg j hj];split<;>simp_all
 have g5:∀j:Int,0<=j->(ay (l.set k.toNat ((ay l k).1,(ay l k).2.1,(ay l k).2.2.1,time,(ay l k).2.2.2.2.1,r,())) j).2.2.2.2.1=(ay l j).2.2.2.2.1:=fun j hj=>by rw[hg j hj];split<;>simp_all
 have gk:=(hg k k0).trans (aj rfl);have go:∀j:Int,0<=j->j≠k->ay (l.set k.toNat ((ay l k).1,(ay l k).2.1,(ay l k).2.2.1,time,(ay l k).2.2.2.2.1,r,())) j=ay l j:=fun j hj oy=>(hg j hj).trans (af oy);have hkn:k∉ord:=fun q=>by have:=(I.gI k q).2.2;omega
 have s8:∀t j,f6 (l.set k.toNat ((ay l k).1,(ay l k).2.1,(ay l k).2.2.1,time,(ay l k).2.2.2.2.1,r,())) t j↔f6 l t j:=by
  intro t j;constructor
  .intro h;have hj:=h.dQ.1;exact⟨by simpa using h.dQ,by rw[<-g1 j hj];exact h.t,by rw[<-g5 j hj];exact h.fin⟩
  .intro h;have hj:=h.dQ.1;exact⟨by simpa using h.dQ,by rw[g1 j hj];exact h.t,by rw[g5 j hj];exact h.fin⟩
 refine⟨?_,?_,?_,?_,?_,?_,?_,?_,?_,?_⟩
 .intro j a b;rw[b8]at b;by_cases h:j=k
  .rw[h,gk];exact⟨hc.t,hc.op,hc.start,.inr ⟨hst.2,eA _⟩,.inl kM,hr⟩
  .rw[go j a h];exact I.c j a b
 .intro i j a b d e;rw[b8]at d;rw[g5 i a,g3 j (by omega)];exact I.before i j a b d (by rw[<-g1 i a,<-g1 j (by omega)];exact e)
 .intro t a b;have:=QG l ((ay l k).1,(ay l k).2.1,(ay l k).2.2.1,time,(ay l k).2.2.2.2.1,r,()) t k.toNat (by omega)
  have e:l[k.toNat]'(by omega)=ay l k:=by unfold ay;rw[qv]
  rw[e]at this;dsimp only at this;rw[<-I.cnt t a b];omega
 .intro t a b e;obtain⟨j,hj,h3⟩:=I.jN t a b e;exact⟨j,(s8 t j).2 hj,by rw[g2 j hj.dQ.1];exact h3⟩
 .intro t a b e j j0 j1 hj;rw[b8]at j1;rw[g5 j j0];exact I.off t a b e j j0 j1 (by rw[<-g1 j j0];exact hj)
 .intro t j a b hj;have hj':=(s8 t j).1 hj;by_cases h:t=u
  .subst h;have e:=I.uniq hj' hk;subst e;rw[gk,h1];refine⟨fun q=>(by cases q),fun r' q=>?_⟩;cases q;exact⟨by dsimp only;omega,rfl⟩
  .have hne:j≠k:=fun q=>h (by rw[<-hj'.t,q,hk.t]);rw[go j hj'.dQ.1 hne,h2 t a h];exact I.qE t j a b hj'
 .intro j hj;rw[b8];rcases bN.1 hj with h | h
  .have hj':=I.gI j h;rw[go j hj'.1 (fun q=>hkn (q ▸ h))];exact hj'
  .rw[d6]at h;subst h;rw[gk];exact⟨k0,k1,by dsimp only;omega⟩
 .rw[FZ];exact⟨I.nodup,by simp,fun a ha b hb=>by rw[d6]at hb;rw[hb];exact fun q=>hkn (q ▸ ha)⟩
 .rw[yc];refine⟨I.sort.imp_of_mem fun {a b} ha hb hab=>?_,by simp,fun a ha b hb=>?_⟩
  .rw[go a (I.gI a ha).1 (fun q=>hkn (q ▸ ha)),go b (I.gI b hb).1 (fun q=>hkn (q ▸ hb))];exact hab
  .rw[d6]at hb;subst hb;have vG:=I.gI a ha;rw[go a vG.1 (fun q=>hkn (q ▸ ha)),gk];have:=(I.c a vG.1 vG.2.1).qE;dsimp only;omega
 .intro j a b e;rw[b8]at b;by_cases h:j=k
  .rw[h];exact List.mem_append_right _ e7
  .rw[go j a h]at e;exact B4 _ (I.all j a b e)
theorem gl.fin{u k:Int}(u0:0<=u)(u1:u<n)(hk:f6 l u k){r:fC}(hy:yes u=some r){on':Int->Bool}{Jk:Int->Int}{oa:Int->Option fC}(oA:on' u=false)(w5:∀t:Int,0<=t->t≠u->on' t=on t)
  (An:Jk u=pc u+1) (Xc:∀t:Int,0<=t->t≠u->Jk t=pc t) {op':Int->cK} (Er:∀t:Int,0<=t->t≠u->op' t=op t) (h2:∀t:Int,0<=t->t≠u->oa t=yes t) :
  gl (l.set k.toNat ((ay l k).1,(ay l k).2.1,(ay l k).2.2.1,(ay l k).2.2.2.1,time,r,())) ord n time on' Jk op' oa:=by
 have k0:=hk.dQ.1;have k1:=hk.dQ.2;obtain⟨Ah,hres⟩:=(I.qE u k u0 u1 hk).2 r hy;have kM:=hk.fin;have hc:=I.c k k0 k1;have hst:=hc.start;have jL:=hc.qE;have hg:∀j:Int,0<=j->ay (l.set k.toNat ((ay l k).1,(ay l k).2.1,(ay l k).2.2.1,(ay l k).2.2.2.1,time,r,())) j=if j=k then ((ay l k).1,(ay l k).2.1,(ay l k).2.2.1,(ay l k).2.2.2.1,time,r,()) else ay l j:=fun j hj=>Dx hk.dQ hj
 have g1:∀j:Int,0<=j->(ay (l.set k.toNat ((ay l k).1,(ay l k).2.1,(ay l k).2.2.1,(ay l k).2.2.2.1,time,r,())) j).1=(ay l j).1:=fun j hj=>by rw[hg j hj];split<;>simp_all
 have g2:∀j:Int,0<=j->(ay (l.set k.toNat ((ay l k).1,(ay l k).2.1,(ay l k).2.2.1,(ay l k).2.2.2.1,time,r,())) j).2.1=(ay l j).2.1:=fun j hj=>by rw[hg j hj];split<;>simp_all
 have g3:∀j:Int,0<=j->(ay (l.set k.toNat ((ay l k).1,(ay l k).2.1,(ay l k).2.2.1,(ay l k).2.2.2.1,time,r,())) j).2.2.1=(ay l j).2.2.1:=fun j hj=>by rw[hg j hj];split<;>simp_all
 have g4:∀j:Int,0<=j->(ay (l.set k.toNat ((ay l k).1,(ay l k).2.1,(ay l k).2.2.1,(ay l k).2.2.2.1,time,r,())) j).2.2.2.1=(ay l j).2.2.2.1:=fun j hj=>by rw[hg j hj];split<;>simp_all
 have gk:=(hg k k0).trans (aj rfl);have go:∀j:Int,0<=j->j≠k->ay (l.set k.toNat ((ay l k).1,(ay l k).2.1,(ay l k).2.2.1,(ay l k).2.2.2.1,time,r,())) j=ay l j:=fun j hj oy=>(hg j hj).trans (af oy);have s8:∀t j,f6 (l.set k.toNat ((ay l k).1,(ay l k).2.1,(ay l k).2.2.1,(ay l k).2.2.2.1,time,r,())) t j->j≠k/\f6 l t j:=by
  intro t j h;have hj:=h.dQ.1;have hne:j≠k:=fun q=>by have:=h.fin;rw[q,gk]at this;dsimp only at this;omega
  have h1:=h.t;have h3:=h.fin
  rw[go j hj hne]at h1 h3;exact⟨hne,by simpa using h.dQ,h1,h3⟩
 refine⟨?_,?_,?_,?_,?_,?_,?_,I.nodup,?_,?_⟩
 .intro j a b;rw[b8]at b;by_cases h:j=k
  .rw[h,gk];have:=hc.len;rw[hres]at this;exact⟨hc.t,hc.op,hc.start,hc.qE,.inr ⟨Ah,by dsimp only;omega,eA _⟩,this⟩
  .rw[go j a h];exact I.c j a b
 .intro i j a b d e;rw[b8]at d;rw[g1 i a,g1 j (by omega)]at e;rw[g3 j (by omega)];by_cases h:i=k
  .subst h;have:=(I.before i j a b d e).1;omega
  .rw[go i a h];exact I.before i j a b d e
 .intro t a b;have:=QG l ((ay l k).1,(ay l k).2.1,(ay l k).2.2.1,(ay l k).2.2.2.1,time,r,()) t k.toNat (by omega)
  have e:l[k.toNat]'(by omega)=ay l k:=by unfold ay;rw[qv]
  have hA:¬ ((ay l k).1=t/\0<=(ay l k).2.2.2.2.1):=fun q=>by have:=q.2;omega
  rw[e,af hA]at this;dsimp only at this;have C3:0<=time:=by omega
  have hcn:=I.cnt t a b;by_cases h:t=u
  .subst h;rw[aj ⟨hk.t,C3⟩]at this;rw[An];omega
  .have hB:¬ ((ay l k).1=t/\0<=time):=fun q=>h (q.1.symm.trans hk.t);rw[af hB]at this;rw[Xc t a h];omega
 .intro t a b e;have hne:t≠u:=fun q=>by rw[q,oA]at e;exact absurd e (by simp)
  rw[w5 t a hne]at e;obtain⟨j,hj,h3⟩:=I.jN t a b e;have oy:j≠k:=fun q=>hne (by rw[<-hj.t,q,hk.t]);exact⟨j,⟨by simpa using hj.dQ,by rw[go j hj.dQ.1 oy];exact hj.t,by rw[go j hj.dQ.1 oy];exact hj.fin⟩,by rw[go j hj.dQ.1 oy,Er t a hne];exact h3⟩
 .intro t a b e j j0 j1 hj;rw[b8]at j1;rw[g1 j j0]at hj;by_cases h:j=k
  .rw[h,gk];dsimp only;omega
  .rw[go j j0 h];by_cases hu:t=u
   .subst hu;have hn:=hc;rcases(I.c j j0 j1).fin with q | q
    .exact absurd (I.uniq ⟨⟨j0,j1⟩,hj,q⟩ hk) h
    .omega
   .exact I.off t a b (by rw[<-w5 t a hu];exact e) j j0 j1 hj
 .intro t j a b hj;obtain⟨hne,hj'⟩:=s8 t j hj;have hu:t≠u:=fun q=>hne (I.uniq (q ▸ hj') hk);rw[go j hj'.dQ.1 hne,h2 t a hu];exact I.qE t j a b hj'
 .intro j hj;rw[b8];have hj':=I.gI j hj;rw[g4 j hj'.1];exact hj'
 .exact I.sort.imp_of_mem fun {a b} ha hb hab=>by
   rw[g4 a (I.gI a ha).1,g4 b (I.gI b hb).1];exact hab
 .intro j a b e;rw[b8]at b;rw[g4 j a]at e;exact I.all j a b e
end
inductive iE (l:List gf):qp->List Int->qp->Prop
 | nil (r:qp):iE l r [] r
 | snoc {r s:qp} {ks:List Int} {k:Int}:iE l r ks s->aW s->Out s (ay l k).2.1 (ay l k).2.2.2.2.2.1.1 (ay l k).2.2.2.2.2.1.2.1->iE l r (ks++[k]) (jf s (ay l k).2.1 (ay l k).2.2.2.2.2.1.1)
theorem iE.same{l l':List gf}{r:qp}{ks:List Int}{s:qp}(h:iE l r ks s):(∀k∈ks,(ay l' k).2.1=(ay l k).2.1/\(ay l' k).2.2.2.2.2.1=(ay l k).2.2.2.2.2.1)->iE l' r ks s:=by
 induction h with
 | nil=>intro _;exact .nil _
 | @snoc s ks k _ hs ho ih=>intro hl;have h1:=hl k (by simp);have:=iE.snoc (l:=l') (k:=k) (ih fun j hj=>hl j (B4 _ hj)) hs (by rw[h1.1,h1.2];exact ho);rw[h1.1,h1.2]at this;exact this
structure js (m:aS) (n:Nat) (x:cU) (t:Int):Prop where
 ops:x.1.length<=4/\∀o∈x.1,dh o=true
 pc:0<=x.2.1/\x.2.1<=x.1.length
 on:x.2.2.1=true->x.2.1<x.1.length
 off:x.2.2.1=false->x.2.2.2.1=[]/\x.2.2.2.2.1=[]
 got:sj x.2.2.2.1
 st:x.2.2.2.2.1=[]\/(∃h,x.2.2.2.2.1=[h])\/∃h h',x.2.2.2.2.1=[h,h']/\h.1=t
 dZ:∀h∈x.2.2.2.2.1,bV m n h
 own:∀h∈x.2.2.2.2.1,h.1=t->h.2.1=(aq m t).1
 along:x.2.2.1=true->qK x.2.2.2.1 (aV x)
 read:x.2.2.1=true->bC x t=false->∃q B,path (dJ x.2.2.2.1) (prog (aV x))=gY x.2.2.2.1++q::B
 plan:bC x t=true->path (dJ x.2.2.2.1) (prog (aV x))=gY x.2.2.2.1/\mJ (aV x) x.2.2.2.1=none/\(aq m t).2.2.1=dI (aV x) x.2.2.2.1/\(aq m t).2.2.2.1=eF (aV x) x.2.2.2.1
def bw(m:aG)(t:Int):Prop:=bC (ai m t) t=true
def mX(m:aG)(t:Int):Option fC:=if bC (ai m t) t=true/\(aq m.1 t).2.1=2 then some (aq m.1 t).2.2.2.1 else none
structure Inv (m:aG):Prop where
 n:1<=m.2.1.length/\m.2.1.length<=3
 time:0<=m.2.2.1
 mem:eX m.1 m.2.1.length m.2.2.1 (bw m)
 th:∀t:Int,0<=t->t<m.2.1.length->js m.1 m.2.1.length (ai m t) t
 call:gl m.2.2.2.1 m.2.2.2.2.1 m.2.1.length m.2.2.1 (fun t=>(ai m t).2.2.1) (fun t=>(ai m t).2.1) (fun t=>aV (ai m t)) (mX m)
 rep:∃R,aW R/\iE m.2.2.2.1 m.2.2.2.2.2.1 m.2.2.2.2.1 R/\∀p:Int,0<=p->p<20->fX m.1 p=b_ R p
 first:aW m.2.2.2.2.2.1
theorem HE(x:cU)(t:Int):bC x t=true↔∃h r,x.2.2.2.2.1=h::r/\h.1=t:=by
 unfold bC;cases x.2.2.2.2.1 with
 | nil=>simp
 | cons h r=>simp
theorem zQ{x:cU}{t:Int}(h:x.2.2.2.2.1=[]):bC x t=false:=by unfold bC;rw[h]
theorem js.Aq{m:aS}{n:Nat}{x:cU}{t:Int}(h:js m n x t)(hs:x.2.2.2.2.1≠[]):x.2.2.1=true:=by
 cases ho:x.2.2.1 with
 | true=>rfl
 | false=>exact absurd (h.off ho).2 hs
theorem js.oX{m:aS}{n:Nat}{x:cU}{t:Int}(h:js m n x t)(hs:bC x t=true):x.2.2.1=true:=by refine h.Aq fun e=>?_;rw[zQ e]at hs;cases hs
theorem js.op{m:aS}{n:Nat}{x:cU}{t:Int}(h:js m n x t)(ho:x.2.2.1=true):dh (aV x)=true:=by have h1:=h.on ho;have h2:=h.pc;unfold aV;rw[qv (show x.2.1.toNat<x.1.length by omega)];exact h.ops.2 _ (ez _)
theorem js.move{m m':aS}{n:Nat}{x:cU}{t:Int}(h:js m n x t)(hh:∀k,bV m n k->bV m' n k)(h1:(aq m' t).1=(aq m t).1)(h2:(aq m' t).2.2=(aq m t).2.2):js m' n x t where
 ops:=h.ops
 pc:=h.pc
 on:=h.on
 off:=h.off
 got:=h.got
 st:=h.st
 dZ:=fun k hk=>hh k (h.dZ k hk)
 own:=fun k e1 e2=>by rw[h1];exact h.own k e1 e2
 along:=h.along
 read:=h.read
 plan:=fun e=>by rw[h2];exact h.plan e
theorem mH{x:cU}(h:x.2.2.2.2.1≠[]):au x∈x.2.2.2.2.1:=by have hl:0<x.2.2.2.2.1.length:=pz.2 h;unfold au;rw[qv (by omega)];exact ez _
theorem AR{m:aS}{n:Nat}{x:cU}{t:Int}(h:js m n x t)(hs:x.2.2.2.2.1≠[]) :
  (x.2.2.2.2.1=[au x])\/∃h0,x.2.2.2.2.1=[h0,au x]/\h0.1=t:=by
 rcases h.st with e | ⟨k,e⟩ | ⟨k,k',e,h1⟩
 .exact absurd e hs
 .left;have:au x=k:=by unfold au;rw[e];rfl
  rw[this,e]
 .right;have:au x=k':=by unfold au;rw[e];rfl
  rw[this];exact⟨k,e,h1⟩
theorem JA{m:aS}{n:Nat}{x:cU}{t:Int}(h:js m n x t)(hs:x.2.2.2.2.1≠[])(ht:(au x).1=t):bC x t=true/\(au x).2.1=(aq m t).1:=by
 refine⟨?_,h.own _ (mH hs) ht⟩;rcases AR h hs with e | ⟨h0,e,a⟩
 .exact(HE x t).2 ⟨_,_,e,ht⟩
 .exact(HE x t).2 ⟨_,_,e,a⟩
def i6(x:cU)(s:List gv):cU:=(x.1,x.2.1,x.2.2.1,x.2.2.2.1,s,())
theorem js.i6{m:aS}{n:Nat}{x:cU}{t:Int}(h:js m n x t)(ho:x.2.2.1=true){s:List gv}(hst:s=[]\/(∃h,s=[h])\/∃h h',s=[h,h']/\h.1=t)(hh:∀k∈s,bV m n k)(hw:∀k∈s,k.1=t->k.2.1=(aq m t).1)
  (hb:bC (i6 x s) t=bC x t):js m n (i6 x s) t where
 ops:=h.ops
 pc:=h.pc
 on:=h.on
 off:=fun e=>by rw[show(Go.G.i6 x s).2.2.1=x.2.2.1 from rfl,ho]at e;cases e
 got:=h.got
 st:=hst
 dZ:=hh
 own:=hw
 along:=h.along
 read:=fun e1 e2=>h.read e1 (by rw[<-hb];exact e2)
 plan:=fun e=>h.plan (by rw[<-hb];exact e)
theorem Bk{m:aG}(I:Inv m){t:Int}(t0:0<=t)(t1:t<m.2.1.length){a:aS}{x:cU}(hM:eX a m.2.1.length m.2.2.1 (bw (cA (cH m a) t x)))
  (zu:∀u:Int,0<=u->u<m.2.1.length->u≠t->(aq a u).1=(aq m.1 u).1/\(aq a u).2.2=(aq m.1 u).2.2) (hh:∀k,bV m.1 m.2.1.length k->bV a m.2.1.length k)
  (hx:js a m.2.1.length x t) (hsame:x.1=(ai m t).1/\x.2.1=(ai m t).2.1/\x.2.2.1=(ai m t).2.2.1)
  (hyes:∀u:Int,0<=u->u<m.2.1.length->mX (cA (cH m a) t x) u=mX m u) (hv:∀p:Int,0<=p->p<20->fX a p=fX m.1 p):Inv (cA (cH m a) t x):=by
 have hl:(cA (cH m a) t x).2.1.length=m.2.1.length:=oZ _ _ _;have fL:∀u:Int,0<=u->ai (cA (cH m a) t x) u=if u=t then x else ai m u:=fun u hu=>qR (m:=cH m a) ⟨t0,t1⟩ hu
 refine⟨by rw[hl];exact I.n,I.time,by rw[hl];exact hM,?_,?_,?_,I.first⟩
 .intro u u0 u1;rw[hl]at u1⊢;rw[fL u u0];by_cases h:u=t
  .subst h;rw[aj rfl];exact hx
  .rw[af h];exact(I.th u u0 u1).move hh (zu u u0 u1 h).1 (zu u u0 u1 h).2
 .rw[hl];refine I.call.same (eA _) fun u u0 u1=>?_;have e:(ai (cA (cH m a) t x) u).1=(ai m u).1/\(ai (cA (cH m a) t x) u).2.1=(ai m u).2.1/\(ai (cA (cH m a) t x) u).2.2.1=(ai m u).2.2.1:=by
   rw[fL u u0];by_cases h:u=t
   .subst h;rw[aj rfl];exact hsame
   .rw[af h];exact⟨rfl,rfl,rfl⟩
  exact⟨e.2.2,e.2.1,by unfold aV;rw[e.1,e.2.1],hyes u u0 u1⟩
 .obtain⟨R,h1,h2,h3⟩:=I.rep;exact⟨R,h1,h2,fun p p0 p1=>(hv p p0 p1).trans (h3 p p0 p1)⟩
theorem Mt{m:aG}{a:aS}{t u:Int}{x:cU}(t0:0<=t)(t1:t<m.2.1.length)(u0:0<=u)(hb:bC x t=bC (ai m t) t)(h1:(aq a u).2.1=2↔(aq m.1 u).2.1=2)(h2:(aq a u).2.2=(aq m.1 u).2.2) :
  mX (cA (cH m a) t x) u=mX m u:=by
 have e:bC (ai (cA (cH m a) t x) u) u=bC (ai m u) u:=by
  rw[qR (m:=cH m a) ⟨t0,t1⟩ u0];by_cases h:u=t
  .subst h;rw[aj rfl];exact hb
  .rw[af h];rfl
 unfold mX;rw[e,show(cA (cH m a) t x).1=a from rfl,h2];by_cases h:bC (ai m u) u=true/\(aq m.1 u).2.1=2
 .rw[aj h,aj ⟨h.1,h1.2 h.2⟩]
 .rw[af h,af fun q=>h ⟨q.1,h1.1 q.2⟩]
theorem R9{m:aG}{a:aS}{t:Int}{x:cU}(t0:0<=t)(t1:t<m.2.1.length)(hb:bC x t=bC (ai m t) t)(u:Int)(u0:0<=u):bw m u↔bw (cA (cH m a) t x) u:=by
 unfold bw;rw[qR (m:=cH m a) ⟨t0,t1⟩ u0];by_cases h:u=t
 .subst h;rw[aj rfl,hb]
 .rw[af h];exact iY
theorem zU{m:aG}(I:Inv m){t:Int}(t0:0<=t)(t1:t<m.2.1.length)(ho:(ai m t).2.2.1=true){a:aS}{s:List gv}(hM:eX a m.2.1.length m.2.2.1 (bw m))
  (zu:∀u:Int,0<=u->u<m.2.1.length->(aq a u).1=(aq m.1 u).1/\(aq a u).2.2=(aq m.1 u).2.2/\((aq a u).2.1=2↔(aq m.1 u).2.1=2)) (hh:∀k,bV m.1 m.2.1.length k->bV a m.2.1.length k)
  (hst:s=[]\/(∃h,s=[h])\/∃h h',s=[h,h']/\h.1=t) (hhs:∀k∈s,bV a m.2.1.length k) (hw:∀k∈s,k.1=t->k.2.1=(aq m.1 t).1) (hb:bC (i6 (ai m t) s) t=bC (ai m t) t)
  (hv:∀p:Int,0<=p->p<20->fX a p=fX m.1 p):Inv (cA (cH m a) t (i6 (ai m t) s)):=by
 refine Bk I t0 t1 ?_ (fun u u0 u1 _=>⟨(zu u u0 u1).1,(zu u u0 u1).2.1⟩) hh ?_ ⟨rfl,rfl,rfl⟩ (fun u u0 u1=>Mt t0 t1 u0 hb (zu u u0 u1).2.2 (zu u u0 u1).2.1) hv
 .exact hM.kU fun u u0 _=>R9 t0 t1 hb u u0
 .have:=(I.th t t0 t1).move hh (zu t t0 t1).1 (zu t t0 t1).2.1;exact this.i6 ho hst hhs (fun k hk e=>by rw[(zu t t0 t1).1];exact hw k hk e) hb
theorem Nh{m a:aS}{n:Nat}{x:cU}{t:Int}(h:js m n x t)(hs:x.2.2.2.2.1≠[])(hh:∀k,bV m n k->bV a n k){h':gv}(he:bV a n h')(hw:h'.1=t->h'.2.1=(aq m t).1)(hown:bC x t=false->h'.1≠t)
  (KY:∀k,x.2.2.2.2.1=[k]->k.1=t->h'.1=t) :
  (x.2.2.2.2.1.set (x.2.2.2.2.1.length-1) h'=[]\/(∃k,x.2.2.2.2.1.set (x.2.2.2.2.1.length-1) h'=[k])\/∃k k',x.2.2.2.2.1.set (x.2.2.2.2.1.length-1) h'=[k,k']/\k.1=t)/\
  (∀k∈x.2.2.2.2.1.set (x.2.2.2.2.1.length-1) h',bV a n k)/\(∀k∈x.2.2.2.2.1.set (x.2.2.2.2.1.length-1) h',k.1=t->k.2.1=(aq m t).1)/\
  bC (i6 x (x.2.2.2.2.1.set (x.2.2.2.2.1.length-1) h')) t=bC x t:=by
 rcases AR h hs with e | ⟨h0,e,e0⟩
 .have e2:x.2.2.2.2.1.set (x.2.2.2.2.1.length-1) h'=[h']:=by rw[e];rfl
  rw[e2];refine⟨.inr (.inl ⟨_,rfl⟩),fun k hk=>?_,fun k hk=>?_,?_⟩
  .rw[d6]at hk;rw[hk];exact he
  .rw[d6]at hk;rw[hk];exact hw
  .have b1:bC x t=decide ((au x).1=t):=by unfold bC;rw[e]
   have b2:bC (i6 x [h']) t=decide (h'.1=t):=rfl;rw[b2];by_cases q:(au x).1=t
   .rw[b1,bz q,bz (KY _ e q)]
   .rw[b1,b7 q]at hown⊢;exact b7 (hown rfl)
 .have e2:x.2.2.2.2.1.set (x.2.2.2.2.1.length-1) h'=[h0,h']:=by rw[e];rfl
  rw[e2];have hm0:h0∈x.2.2.2.2.1:=by rw[e];exact e7
  refine⟨.inr (.inr ⟨_,_,rfl,e0⟩),fun k hk=>?_,fun k hk=>?_,?_⟩
  .rcases bh.1 hk with rfl | hk
   .exact hh _ (h.dZ _ hm0)
   .rw[d6]at hk;rw[hk];exact he
  .rcases bh.1 hk with rfl | hk
   .exact h.own _ hm0
   .rw[d6]at hk;rw[hk];exact hw
  .have b2:bC (i6 x [h0,h']) t=decide (h0.1=t):=rfl;have b1:bC x t=decide (h0.1=t):=by unfold bC;rw[e]
   rw[b1,b2]
theorem Nq{m:aS}{n:Nat}{x:cU}{t:Int}(h:js m n x t)(hs:x.2.2.2.2.1≠[])(hne:(au x).1≠t) :
  (x.2.2.2.2.1.take (x.2.2.2.2.1.length-1)=[]\/(∃k,x.2.2.2.2.1.take (x.2.2.2.2.1.length-1)=[k])\/∃k k',x.2.2.2.2.1.take (x.2.2.2.2.1.length-1)=[k,k']/\k.1=t)/\
  (∀k∈x.2.2.2.2.1.take (x.2.2.2.2.1.length-1),bV m n k)/\(∀k∈x.2.2.2.2.1.take (x.2.2.2.2.1.length-1),k.1=t->k.2.1=(aq m t).1)/\
  bC (i6 x (x.2.2.2.2.1.take (x.2.2.2.2.1.length-1))) t=bC x t:=by
 have hsub:∀k∈x.2.2.2.2.1.take (x.2.2.2.2.1.length-1),k∈x.2.2.2.2.1:=fun k hk=>List.mem_of_mem_take hk;refine⟨?_,fun k hk=>h.dZ k (hsub k hk),fun k hk=>h.own k (hsub k hk),?_⟩
 .rcases AR h hs with e | ⟨h0,e,e0⟩
  .left;rw[e];rfl
  .right;left;exact⟨h0,by rw[e];rfl⟩
 .rcases AR h hs with e | ⟨h0,e,e0⟩
  .have b1:bC x t=decide ((au x).1=t):=by unfold bC;rw[e]
   have e2:x.2.2.2.2.1.take (x.2.2.2.2.1.length-1)=[]:=by rw[e];rfl
   rw[e2,b1,b7 hne];rfl
  .have e2:x.2.2.2.2.1.take (x.2.2.2.2.1.length-1)=[h0]:=by rw[e];rfl
   have b1:bC x t=decide (h0.1=t):=by unfold bC;rw[e]
   rw[e2,b1];rfl
theorem MD{m:aS}{n:Nat}{x:cU}{t:Int}(h:js m n x t){h':gv}(he:bV m n h')(hne:h'.1≠t)(hs:x.2.2.2.2.1=[]\/∃k,x.2.2.2.2.1=[k]/\k.1=t) :
  (x.2.2.2.2.1++[h']=[]\/(∃k,x.2.2.2.2.1++[h']=[k])\/∃k k',x.2.2.2.2.1++[h']=[k,k']/\k.1=t)/\
  (∀k∈x.2.2.2.2.1++[h'],bV m n k)/\(∀k∈x.2.2.2.2.1++[h'],k.1=t->k.2.1=(aq m t).1)/\bC (i6 x (x.2.2.2.2.1++[h'])) t=bC x t:=by
 refine⟨?_,fun k hk=>?_,fun k hk Em=>?_,?_⟩
 .rcases hs with e | ⟨k,e,ek⟩
  .right;left;exact⟨h',by rw[e];rfl⟩
  .right;right;exact⟨k,h',by rw[e];rfl,ek⟩
 .rcases bN.1 hk with q | q
  .exact h.dZ k q
  .rw[d6]at q;rw[q];exact he
 .rcases bN.1 hk with q | q
  .exact h.own k q Em
  .rw[d6]at q;rw[q]at Em;exact absurd Em hne
 .rcases hs with e | ⟨k,e,ek⟩
  .rw[e,gy,zQ e];show decide (h'.1=t)=false;exact b7 hne
  .have b1:bC x t=decide (k.1=t):=by unfold bC;rw[e]
   rw[b1,e];rfl
theorem Rr{m:aG}{t:Int}(t0:0<=t)(t1:t<m.2.1.length):cA m t (ai m t)=m:=by
 have h:m.2.1.set t.toNat (ai m t)=m.2.1:=by unfold ai;rw[qv (show t.toNat<m.2.1.length by omega)];exact Fx _
 unfold cA;rw[h]
theorem Mn{m:aS}{n:Nat}{x:cU}{t:Int}(h:js m n x t)(hs:x.2.2.2.2.1≠[]):j_ x (au x)=x:=by
 have hl:0<x.2.2.2.2.1.length:=pz.2 hs;have e:x.2.2.2.2.1.set (x.2.2.2.2.1.length-1) (au x)=x.2.2.2.2.1:=by unfold au;rw[qv (by omega)];exact Fx _
 unfold j_;rw[e]
theorem Q5{m:aS}{n:Nat}{time:Int}{own lS:Int->Prop}(I:eX m n time own){t:Int}(t0:0<=t)(t1:t<n)(hs:(aq m t).2.1≠1)(hc:∀i:Int,0<=i->i<(aq m t).2.2.1.length->wd m (qi (aq m t).2.2.1 i).1≠dM t (aq m t).1)
  (ho:∀u:Int,0<=u->u≠t->(own u↔lS u)) (hn:¬ lS t):eX m n time lS where
 len:=I.len
 dw:=I.dw
 dy:=I.dy
 word:=fun p p0 p1=>by
  rcases I.word p p0 p1 with h | ⟨u,a,b,c,d,i,i0,i1,e⟩
  .exact .inl h
  .have hu:u≠t:=by rintro rfl;exact hc i i0 i1 (by rw[e];exact d)
   exact .inr ⟨u,a,b,(ho u a hu).1 c,d,i,i0,i1,e⟩
 jN:=fun u a b c=>by
  have hu:u≠t:=fun e=>hs (by rw[<-e];exact c);exact(ho u a hu).1 (I.jN u a b c)
 kV:=fun u a b c=>by
  have hu:u≠t:=fun e=>hn (by rw[<-e];exact c);exact I.kV u a b ((ho u a hu).2 c)
 pre:=I.pre
theorem js.rest{m:aS}{n:Nat}{x:cU}{t:Int}(h:js m n x t):∀b:Bool,(b=true->x.2.1<x.1.length)->js m n (x.1,x.2.1,b,[],[],()) t:=fun b hb=>
  { ops:=h.ops,pc:=h.pc,on:=hb,off:=fun _=>⟨rfl,rfl⟩,got:=fun g hg=>by simp at hg,st:=.inl rfl,dZ:=fun k hk=>by simp at hk,own:=fun k hk=>by simp at hk,
    along:=fun _=>QS _,
    read:=fun e _=>by
      show ∃q B,path (dJ []) (prog (aV (x.1,x.2.1,b,[],[],())))=[]++q::B;have ho:dh (aV x)=true:=by have h1:=hb e;have h2:=h.pc;unfold aV;rw[qv (show x.2.1.toNat<x.1.length by omega)];exact h.ops.2 _ (ez _)
      have hk:=tH ho;have e2:aV (x.1,x.2.1,b,[],[],())=aV x:=rfl;rw[e2];generalize aV x=o at *;simp only[gy];unfold prog;by_cases k1:o.1=1
      . rw[aj k1];unfold sE;simp only[path];exact⟨_,_,rfl⟩
      rw[af k1];by_cases k2:o.1=2
      . rw[aj k2];unfold sF;simp only[path];exact⟨_,_,rfl⟩
      rw[af k2];by_cases k3:o.1=3
      . rw[aj k3];unfold uY;simp only[path];exact⟨_,_,rfl⟩
      rw[af k3];by_cases k4:o.1=4
      . rw[aj k4];simp only[path];exact⟨_,_,rfl⟩
      rw[af k4];by_cases k5:o.1=5
      . rw[aj k5];simp only[path];exact⟨_,_,rfl⟩
      rw[af k5];by_cases k6:o.1=6
      . rw[aj k6];simp only[path];exact⟨_,_,rfl⟩
      rw[af k6];by_cases k7:o.1=7
      . rw[aj k7];unfold Cn;simp only[path];exact⟨_,_,rfl⟩
      rw[af k7];by_cases k8:o.1=8
      . rw[aj k8];simp only[path];exact⟨_,_,rfl⟩
      rw[af k8];by_cases k9:o.1=9
      . rw[aj k9];unfold yG;simp only[path];exact⟨_,_,rfl⟩
      rw[af k9];by_cases jo:o.1=10
      . rw[aj jo];unfold vW;simp only[path];exact⟨_,_,rfl⟩
      . omega
    plan:=fun e=>by simp[bC]at e }
theorem M0{m:aG}{t:Int}(t0:0<=t)(t1:t<m.2.1.length){k:Int}{r:fC}{yes:Int->Option fC}
    (hn:1<=m.2.1.length/\m.2.1.length<=3) (ht:0<=m.2.2.1) (hM:eX m.1 m.2.1.length m.2.2.1 (bw (d_ m t r))) (xh:∀u:Int,0<=u->u<m.2.1.length->js m.1 m.2.1.length (ai m u) u) (oA:(ai m t).2.2.1=true)
    (hC:gl m.2.2.2.1 m.2.2.2.2.1 m.2.1.length m.2.2.1 (fun t=>(ai m t).2.2.1) (fun t=>(ai m t).2.1) (fun t=>aV (ai m t)) yes) (hk:f6 m.2.2.2.1 t k) (hy:yes t=some r) (hyo:∀u:Int,0<=u->u≠t->yes u=mX m u)
    (hR:∃R,aW R/\iE m.2.2.2.1 m.2.2.2.2.2.1 m.2.2.2.2.1 R/\∀p:Int,0<=p->p<20->fX m.1 p=b_ R p) (hf:aW m.2.2.2.2.2.1):Inv (d_ m t r):=by
  have e:d_ m t r=(m.1,m.2.1.set t.toNat ((ai m t).1,(ai m t).2.1+1,false,[],[],()),m.2.2.1,m.2.2.2.1.set k.toNat ((ay m.2.2.2.1 k).1,(ay m.2.2.2.1 k).2.1,(ay m.2.2.2.1 k).2.2.1,(ay m.2.2.2.1 k).2.2.2.1,m.2.2.1,r,()),m.2.2.2.2):=by unfold d_ ig;rw[hC.ni hk,af (by have:=hk.dQ;omega)];rfl
  have hl:(d_ m t r).2.1.length=m.2.1.length:=by rw[e];simp
  have fL:∀u:Int,0<=u->ai (d_ m t r) u=if u=t then ((ai m t).1,(ai m t).2.1+1,false,[],[],()) else ai m u:=fun u u0=>by
    have:=qR (m:=ig m t r) (u:=t) (t:=u) (x:=((ai m t).1,(ai m t).2.1+1,false,[],[],()));unfold d_;have h2:(ig m t r).2.1=m.2.1:=by unfold ig;split<;>rfl
    rw[this (by rw[h2];exact⟨t0,t1⟩) u0,zO h2 u]
  have hx:=xh t t0 t1;have An:=hx.pc;have hlt:=hx.on oA;refine⟨by rw[hl];exact hn,by rw[e];exact ht,by rw[hl];rw[show(d_ m t r).2.2.1=m.2.2.1 by rw[e],show(d_ m t r).1=m.1 by rw[e]];exact hM,?_,?_,?_,by rw[e];exact hf⟩
  . intro u u0 u1
    rw[hl]at u1⊢;rw[fL u u0,show(d_ m t r).1=m.1 by rw[e]];by_cases h:u=t
    . subst h
      rw[aj rfl]
      exact { ops:=hx.ops,pc:=⟨by dsimp only;omega,by dsimp only;omega⟩,on:=fun q=>(by cases q),off:=fun _=>⟨rfl,rfl⟩,got:=fun g hg=>by simp at hg,st:=.inl rfl,dZ:=fun k hk=>by simp at hk,own:=fun k hk=>by simp at hk,
              along:=fun _=>QS _,read:=fun q _=>(by cases q),plan:=fun q=>by simp[bC]at q }
    . rw[af h];exact xh u u0 u1
  . have e1:(d_ m t r).2.2.2.1=m.2.2.2.1.set k.toNat ((ay m.2.2.2.1 k).1,(ay m.2.2.2.1 k).2.1,(ay m.2.2.2.1 k).2.2.1,(ay m.2.2.2.1 k).2.2.2.1,m.2.2.1,r,()):=by rw[e]
    have e2:(d_ m t r).2.2.2.2.1=m.2.2.2.2.1:=by rw[e]
    have e3:(d_ m t r).2.2.1=m.2.2.1:=by rw[e]
    rw[hl,e1,e2,e3];have hT:=(fL t t0).trans (aj rfl);have hO:∀u:Int,0<=u->u≠t->ai (d_ m t r) u=ai m u:=fun u u0 h=>(fL u u0).trans (af h);refine hC.fin t0 t1 hk hy (by rw[hT]) (fun u u0 h=>by rw[hO u u0 h]) (by rw[hT]) (fun u u0 h=>by rw[hO u u0 h]) (fun u u0 h=>by rw[hO u u0 h]) (fun u u0 h=>?_);rw[hyo u u0 h];unfold mX;rw[hO u u0 h,show(d_ m t r).1=m.1 by rw[e]]
  . obtain⟨R,h1,h2,h3⟩:=hR
    refine⟨R,h1,?_,by rw[show(d_ m t r).1=m.1 by rw[e]];exact h3⟩;rw[e];refine h2.same fun j hj=>?_;have hj':=hC.gI j hj;dsimp only;rw[Dx hk.dQ hj'.1];by_cases h:j=k
    . rw[aj h,h];exact⟨rfl,((hC.qE t k t0 t1 hk).2 r hy).2.symm⟩
    . rw[af h];exact⟨rfl,rfl⟩
theorem aka{m:aG}(I:Inv m){u:Int}(u0:0<=u)(u1:u<m.2.1.length)(hs:(aq m.1 u).2.1=1)(hall:∀i:Int,0<=i->i<(aq m.1 u).2.2.1.length->wd m.1 (qi (aq m.1 u).2.2.1 i).1=dM u (aq m.1 u).1)
  {R:qp} (hv:∀p:Int,0<=p->p<20->fX m.1 p=b_ R p):(ai m u).2.2.2.1=fy R (aV (ai m u)):=by
 have hown:bw m u:=I.mem.jN u u0 u1 hs;have T:=I.th u u0 u1;have oA:=T.oX hown;have ho:=T.op oA;obtain⟨hp,dz,hl,hr⟩:=T.plan hown;refine abV (J2 ho T.got (T.along oA)).1 hp fun g hg=>?_;obtain⟨e,he,e1,e2⟩:=(Be ho T.got (T.along oA) hp dz).1 g hg;have Lf:=MS ho T.got (T.along oA) hp dz e he;rw[<-hl]at he;obtain⟨i,i0,i1,hi⟩:=RG he;have hm:=hall i i0 i1;rw[hi]at hm;have:=zP u0 hm;rw[af (by omega),<-hi,A0 (I.mem.dy u u0 u1).z4 i0 i1,hi]at this;rw[<-e2,<-this,hv _ Lf.1.1 Lf.1.2,e1]
theorem akE{m:aG}(I:Inv m){u:Int}(u0:0<=u)(u1:u<m.2.1.length)(hs:(aq m.1 u).2.1=1)(hall:∀i:Int,0<=i->i<(aq m.1 u).2.2.1.length->wd m.1 (qi (aq m.1 u).2.2.1 i).1=dM u (aq m.1 u).1) :
  Inv (iB (cH m (bJ m.1 u ((aq m.1 u).1,2,(aq m.1 u).2.2))) u (aq m.1 u).2.2.2.1):=by
 have hown:bw m u:=I.mem.jN u u0 u1 hs;have T:=I.th u u0 u1;have oA:=T.oX hown;have ho:=T.op oA;obtain⟨hp,dz,hl,hr⟩:=T.plan hown;obtain⟨k,hk,uc⟩:=I.call.jN u u0 u1 oA;obtain⟨R,hR,uf,hv⟩:=I.rep;have wT:=aka I u0 u1 hs hall hv;rw[wT]at dz hl hr;have xk:=abi hR ho dz;have hout:=acG hR ho dz;obtain⟨hM,hH,hval⟩:=HU I.mem u0 u1 (c:=2) hs (.inl rfl);have me:=I.mem.dw;have hd:∀v:Int,0<=v->aq (bJ m.1 u ((aq m.1 u).1,2,(aq m.1 u).2.2)) v=if v=u then ((aq m.1 u).1,2,(aq m.1 u).2.2) else aq m.1 v:=fun v v0=>n5 (by omega) v0
 have hC:kF m.2.2.2.1 u=k:=I.call.ni hk;have e:iB (cH m (bJ m.1 u ((aq m.1 u).1,2,(aq m.1 u).2.2))) u (aq m.1 u).2.2.2.1=(bJ m.1 u ((aq m.1 u).1,2,(aq m.1 u).2.2),m.2.1,m.2.2.1,
   m.2.2.2.1.set k.toNat ((ay m.2.2.2.1 k).1,(ay m.2.2.2.1 k).2.1,(ay m.2.2.2.1 k).2.2.1,m.2.2.1,(ay m.2.2.2.1 k).2.2.2.2.1,(aq m.1 u).2.2.2.1,()),m.2.2.2.2.1++[k],m.2.2.2.2.2):=by
  unfold iB;rw[show(cH m (bJ m.1 u ((aq m.1 u).1,2,(aq m.1 u).2.2))).2.2.2.1=m.2.2.2.1 from rfl,hC,af (by have:=hk.dQ;omega)];rfl
 rw[e];have hyes:∀v:Int,0<=v->mX (bJ m.1 u ((aq m.1 u).1,2,(aq m.1 u).2.2),m.2.1,m.2.2.1,
   m.2.2.2.1.set k.toNat ((ay m.2.2.2.1 k).1,(ay m.2.2.2.1 k).2.1,(ay m.2.2.2.1 k).2.2.1,m.2.2.1,(ay m.2.2.2.1 k).2.2.2.2.1,(aq m.1 u).2.2.2.1,()),m.2.2.2.2.1++[k],m.2.2.2.2.2) v=if v=u then some (aq m.1 u).2.2.2.1 else mX m v:=by
  intro v v0;by_cases h:v=u
  .subst h;rw[aj rfl];show(if bC (ai m v) v=true/\(aq (bJ m.1 v ((aq m.1 v).1,2,(aq m.1 v).2.2)) v).2.1=2 then some (aq (bJ m.1 v ((aq m.1 v).1,2,(aq m.1 v).2.2)) v).2.2.2.1 else none)=_;rw[hd v v0,aj rfl,aj ⟨hown,rfl⟩]
  .rw[af h];show(if bC (ai m v) v=true/\(aq (bJ m.1 u ((aq m.1 u).1,2,(aq m.1 u).2.2)) v).2.1=2 then some (aq (bJ m.1 u ((aq m.1 u).1,2,(aq m.1 u).2.2)) v).2.2.2.1 else none)=_;rw[hd v v0,af h];rfl
 refine⟨I.n,I.time,hM,?_,?_,?_,I.first⟩
 .intro v v0 v1;refine(I.th v v0 v1).move hH ?_ ?_
  .show(aq (bJ m.1 u _) v).1=_;rw[hd v v0];split
   .next h=>rw[h]
   .rfl
  .show(aq (bJ m.1 u _) v).2.2=_;rw[hd v v0];split
   .next h=>rw[h]
   .rfl
 .exact I.call.so u0 u1 hk (by unfold mX;rw[af (by omega)]) (by rw[hr];exact MF _ _) ((hyes u u0).trans (aj rfl)) (fun v v0 h=>(hyes v v0).trans (af h))
 .have gk:ay (m.2.2.2.1.set k.toNat ((ay m.2.2.2.1 k).1,(ay m.2.2.2.1 k).2.1,(ay m.2.2.2.1 k).2.2.1,m.2.2.1,(ay m.2.2.2.1 k).2.2.2.2.1,(aq m.1 u).2.2.2.1,())) k=((ay m.2.2.2.1 k).1,(ay m.2.2.2.1 k).2.1,(ay m.2.2.2.1 k).2.2.1,m.2.2.1,(ay m.2.2.2.1 k).2.2.2.2.1,(aq m.1 u).2.2.2.1,()):=by rw[Dx hk.dQ hk.dQ.1,aj rfl]
  have hkn:k∉m.2.2.2.2.1:=fun q=>by
   have h1:=(I.call.gI k q).2.2;have h2:=(I.call.qE u k u0 u1 hk).1 (by unfold mX;rw[af (by omega)]);omega
  have w9:iE (m.2.2.2.1.set k.toNat ((ay m.2.2.2.1 k).1,(ay m.2.2.2.1 k).2.1,(ay m.2.2.2.1 k).2.2.1,m.2.2.1,(ay m.2.2.2.1 k).2.2.2.2.1,(aq m.1 u).2.2.2.1,())) m.2.2.2.2.2.1 m.2.2.2.2.1 R:=by refine uf.same fun j hj=>?_;rw[Dx hk.dQ (I.call.gI j hj).1,af (fun q:j=k=>hkn (by rw[<-q];exact hj))];exact⟨rfl,rfl⟩
  have Ll:=iE.snoc (k:=k) w9 hR (by rw[gk];dsimp only;rw[uc,hr];exact hout);rw[gk]at Ll;dsimp only at Ll;refine⟨jf R (ay m.2.2.2.1 k).2.1 (aq m.1 u).2.2.2.1.1,by rw[uc,hr];exact xk.2,Ll,fun p p0 p1=>?_⟩;show fX (bJ m.1 u _) p=_;rw[hval p p0 p1,uc,hr];by_cases hw:wd m.1 p=dM u (aq m.1 u).1
  .rw[aj ⟨rfl,hw⟩];rcases I.mem.word p p0 p1 with h | ⟨v,v0,v1,_,d,i,i0,i1,ei⟩
   .exact absurd hw (vf h.1 u0)
   .obtain rfl:v=u:=(tE (d.symm.trans hw)).1;rw[<-ei,A0 (I.mem.dy v v0 v1).z4 i0 i1];have hm:=LS i0 i1;rw[hl]at hm⊢;exact(xk.1.old _ hm).2.2.2
  .rw[af (fun q=>hw q.2),hv p p0 p1];have:=xk.1.rest p.toNat (by omega) (fun e he=>by
    rw[<-hl]at he;obtain⟨i,i0,i1,hi⟩:=RG he;intro q;have:=hall i i0 i1;rw[hi,q,show((p.toNat:Nat):Int)=p by omega]at this;exact hw this)
   rw[show((p.toNat:Nat):Int)=p by omega]at this;exact this
theorem acZ{m:aG}(I:Inv m){t:Int}(t0:0<=t)(t1:t<m.2.1.length)(hs:(ai m t).2.2.2.2.1≠[]):Inv (kE m t):=by
 have T:=I.th t t0 t1;have ho:=T.Aq hs;have H:=T.dZ _ (mH hs);have hw:=fun e=>T.own _ (mH hs) e;have KZ:bC (ai m t) t=false->(au (ai m t)).1≠t:=fun h e=>by rw[(JA T hs e).1]at h;cases h
 have Uu:=Mn T hs;have xj:∀k,(ai m t).2.2.2.2.1=[k]->au (ai m t)=k:=fun k e=>by unfold au;rw[e];rfl
 generalize hh:au (ai m t)=h at *;have u0:=H.t.1;have u1:=H.t.2;by_cases hd:(aq m.1 h.1).1≠h.2.1
 .have e:q7 m.1 h=(m.1,h,dH,2,()):=by unfold q7;rw[aj hd]
  have hne:h.1≠t:=fun q=>hd (by rw[q];exact(hw q).symm);unfold kE;rw[hh,e];dsimp only;rw[af (by decide),aj rfl,aj hne];obtain⟨p1,p2,p3,p4⟩:=Nq T hs (by rw[hh];exact hne);exact zU I t0 t1 ho I.mem (fun u _ _=>⟨rfl,rfl,iY⟩) (fun k hk=>hk) p1 p2 p3 p4 (fun p _ _=>rfl)
 have hd':h.2.1=(aq m.1 h.1).1:=by omega
 obtain⟨c1,c2,c3,c4⟩:=H.cur hd';have TS:∀{a:aS}(hk:∀k,bV m.1 m.2.1.length k->bV a m.2.1.length k) {h':gv} (he:bV a m.2.1.length h') (e1:h'.1=h.1) (e2:h'.2.1=h.2.1),_:=fun {a} hk {h'} he e1 e2=>
  Nh T hs hk he (fun q=>by rw[e2];exact hw (e1 ▸ q)) (fun q=>by rw[e1];exact KZ q) (fun k ek q=>by rw[e1,xj k ek];exact q)
 by_cases hst:(aq m.1 h.1).2.1=1
 .by_cases d8:((aq m.1 h.1).2.2.1.length:Int)<=h.2.2.1
  .have e:q7 m.1 h=(bJ m.1 h.1 ((aq m.1 h.1).1,2,(aq m.1 h.1).2.2),h,dH,3,()):=by unfold q7;rw[af hd,aj hst,aj d8]
   unfold kE;rw[hh,e];dsimp only;rw[af (by decide),af (by decide),aj rfl,Uu];have hall:=(c3 hst).2;have:=akE I u0 u1 hst (fun i i0 i1=>by rw[<-hd'];exact hall i i0 (by omega));have e2:(iB (cH m (bJ m.1 h.1 ((aq m.1 h.1).1,2,(aq m.1 h.1).2.2))) h.1 (aq m.1 h.1).2.2.2.1).2.1=m.2.1:=by unfold iB;split<;>rfl
   have e3:=zO e2 t;rw[<-e3,Rr t0 (by rw[e2];exact t1)];exact this
  have hlt:h.2.2.1<(aq m.1 h.1).2.2.1.length:=by omega
  have i0:=H.rU.1;have iR:=I.mem.gU u0 u1 i0 hlt;by_cases hmk:wd m.1 (qi (aq m.1 h.1).2.2.1 h.2.2.1).1=dM h.1 h.2.1
  .have e:q7 m.1 h=(m.1,(h.1,h.2.1,h.2.2.1+1,h.2.2.2),dH,0,()):=by unfold q7;rw[af hd,aj hst,af d8,aj hmk]
   have hn:bV m.1 m.2.1.length (h.1,h.2.1,h.2.2.1+1,h.2.2.2):=by
    refine⟨H.t,H.seq,⟨by dsimp only;omega,by dsimp only;have:=(I.mem.dy _ u0 u1).len;omega⟩,H.fin,fun _=>⟨by dsimp only;omega,c2,fun _=>⟨(c3 hst).1,fun i a b=>?_⟩,fun q=>absurd hst q⟩⟩;dsimp only at b⊢;by_cases hi:i=h.2.2.1
    .rw[hi];exact hmk
    .exact(c3 hst).2 i a (by omega)
   unfold kE;rw[hh,e];dsimp only;rw[af (by decide),af (by decide),af (by decide)];obtain⟨p1,p2,p3,p4⟩:=TS (fun k hk=>hk) hn rfl rfl;exact zU I t0 t1 ho I.mem (fun u _ _=>⟨rfl,rfl,iY⟩) (fun k hk=>hk) p1 p2 p3 p4 (fun p _ _=>rfl)
  by_cases xo:(wd m.1 (qi (aq m.1 h.1).2.2.1 h.2.2.1).1).2.1≠0
  .have e:q7 m.1 h=(m.1,h,((wd m.1 (qi (aq m.1 h.1).2.2.1 h.2.2.1).1).2.1-1,(wd m.1 (qi (aq m.1 h.1).2.2.1 h.2.2.1).1).2.2.1,0,0,()),1,()):=by unfold q7;rw[af hd,aj hst,af d8,af hmk,aj xo]
   rcases I.mem.word _ iR.1.1 iR.1.2 with hq | ⟨v,v0,v1,vo,vm,j,j0,j1,je⟩
   .exact absurd hq.1 xo
   have e2:((wd m.1 (qi (aq m.1 h.1).2.2.1 h.2.2.1).1).2.1-1,(wd m.1 (qi (aq m.1 h.1).2.2.1 h.2.2.1).1).2.2.1,(0:Int),(0:Int),())=(v,(aq m.1 v).1,0,0,()):=by rw[vm];simp only[dM];rw[show v+1-1=v by omega]
   rw[e2]at e;have Uv:v≠h.1:=fun q=>hmk (by rw[vm,q,hd']);have hn:bV m.1 m.2.1.length (v,(aq m.1 v).1,0,0,()):=by
    refine⟨⟨v0,v1⟩,⟨I.mem.kV v v0 v1 vo,eA _⟩,⟨by dsimp only;omega,by dsimp only;omega⟩,⟨by dsimp only;omega,by dsimp only;omega⟩,fun _=>⟨by dsimp only;omega,by dsimp only;omega,fun _=>⟨rfl,fun i a b=>?_⟩,fun _ i a b=>?_⟩⟩
    .dsimp only at b;omega
    .dsimp only at b;omega
   unfold kE;rw[hh,e];dsimp only;rw[aj rfl];by_cases hc:h.1=t/\(ai m t).2.2.2.2.1.length=1
   .rw[aj hc];have hk:∃k,(ai m t).2.2.2.2.1=[k]:=by
     match hq:(ai m t).2.2.2.2.1,hc.2 with
     | [k],_=>exact⟨k,rfl⟩
    obtain⟨k,hk⟩:=hk;have Em:k.1=t:=by rw[<-xj k hk];exact hc.1
    obtain⟨p1,p2,p3,p4⟩:=MD T hn (by show v≠t;rw[<-hc.1];exact Uv) (.inr ⟨k,hk,Em⟩);exact zU I t0 t1 ho I.mem (fun u _ _=>⟨rfl,rfl,iY⟩) (fun k hk=>hk) p1 p2 p3 p4 (fun p _ _=>rfl)
   .rw[af hc];obtain⟨p1,p2,p3,p4⟩:=Nh T hs (fun k hk=>hk) hn (fun q=>by dsimp only at q⊢;rw[q]) (fun q=>by
      intro q2;dsimp only at q2;rw[q2]at vo;unfold bw at vo;rw[q]at vo;cases vo) (fun k ek q=>by
      exfalso;exact hc ⟨by rw[xj k ek];exact q,by rw[ek];rfl⟩)
    exact zU I t0 t1 ho I.mem (fun u _ _=>⟨rfl,rfl,iY⟩) (fun k hk=>hk) p1 p2 p3 p4 (fun p _ _=>rfl)
  have hw0:(wd m.1 (qi (aq m.1 h.1).2.2.1 h.2.2.1).1).2.1=0:=by omega
  by_cases hold:(wd m.1 (qi (aq m.1 h.1).2.2.1 h.2.2.1).1).1=(qi (aq m.1 h.1).2.2.1 h.2.2.1).2.1
  .have e:q7 m.1 h=(ep m.1 (qi (aq m.1 h.1).2.2.1 h.2.2.1).1 (dM h.1 h.2.1),(h.1,h.2.1,h.2.2.1+1,h.2.2.2),dH,0,()):=by unfold q7;rw[af hd,aj hst,af d8,af hmk,af xo,aj hold]
   obtain⟨hM,hV,hH⟩:=EZ I.mem u0 u1 hst i0 hlt hw0 hold (fun j a b=>by rw[<-hd'];exact(c3 hst).2 j a b);rw[<-hd']at hM hV hH;have hn:bV (ep m.1 (qi (aq m.1 h.1).2.2.1 h.2.2.1).1 (dM h.1 h.2.1)) m.2.1.length (h.1,h.2.1,h.2.2.1+1,h.2.2.2):=by
    refine⟨H.t,H.seq,⟨by dsimp only;omega,by dsimp only;have:=(I.mem.dy _ u0 u1).len;omega⟩,H.fin,fun _=>⟨by dsimp only;exact hlt,c2,fun _=>⟨(c3 hst).1,fun i a b=>?_⟩,fun q=>absurd hst q⟩⟩;dsimp only at b⊢;have hlen:=I.mem.len;rw[show aq (ep m.1 (qi (aq m.1 h.1).2.2.1 h.2.2.1).1 (dM h.1 h.2.1)) h.1=aq m.1 h.1 from rfl];have Ad:=I.mem.gU u0 u1 a (by omega:i<_);rw[Ff (by omega) Ad.1.1];by_cases hi:(qi (aq m.1 h.1).2.2.1 i).1=(qi (aq m.1 h.1).2.2.1 h.2.2.1).1
    .rw[aj hi]
    .rw[af hi];exact(c3 hst).2 i a (by
      by_cases q:i=h.2.2.1
      .exact absurd (by rw[q]) hi
      .omega)
   unfold kE;rw[hh,e];dsimp only;rw[af (by decide),af (by decide),af (by decide)];obtain⟨p1,p2,p3,p4⟩:=TS hH hn rfl rfl;exact zU I t0 t1 ho hM (fun u _ _=>⟨rfl,rfl,iY⟩) hH p1 p2 p3 p4 hV
  .have e:q7 m.1 h=(bJ m.1 h.1 ((aq m.1 h.1).1,3,(aq m.1 h.1).2.2),h,dH,0,()):=by unfold q7;rw[af hd,aj hst,af d8,af hmk,af xo,af hold]
   obtain⟨hM,hH,hV⟩:=HU I.mem u0 u1 (c:=3) hst (.inr rfl);have me:=I.mem.dw;have lE:∀v:Int,0<=v->aq (bJ m.1 h.1 ((aq m.1 h.1).1,3,(aq m.1 h.1).2.2)) v=if v=h.1 then ((aq m.1 h.1).1,3,(aq m.1 h.1).2.2) else aq m.1 v:=fun v v0=>n5 (by omega) v0
   unfold kE;rw[hh,e];dsimp only;rw[af (by decide),af (by decide),af (by decide)];obtain⟨p1,p2,p3,p4⟩:=TS hH (hH _ H) rfl rfl;refine zU I t0 t1 ho hM (fun v v0 _=>?_) hH p1 p2 p3 p4 (fun p a b=>by rw[hV p a b,af (by omega)]);rw[lE v v0];by_cases q:v=h.1
   .rw[aj q,q];exact⟨rfl,rfl,by dsimp only;omega⟩
   .rw[af q];exact⟨rfl,rfl,iY⟩
 .by_cases kM:((aq m.1 h.1).2.2.1.length:Int)<=h.2.2.2.1
  .have e:q7 m.1 h=(m.1,h,dH,2,()):=by unfold q7;rw[af hd,af hst,aj kM]
   unfold kE;rw[hh,e];dsimp only;rw[af (by decide),aj rfl];by_cases hne:h.1≠t
   .rw[aj hne];obtain⟨p1,p2,p3,p4⟩:=Nq T hs (by rw[hh];exact hne);exact zU I t0 t1 ho I.mem (fun u _ _=>⟨rfl,rfl,iY⟩) (fun k hk=>hk) p1 p2 p3 p4 (fun p _ _=>rfl)
   rw[af hne];have CT:h.1=t:=by omega
   have hown:=(JA T hs (by rw[hh];exact CT)).1;have Ut:=hw CT;rw[CT]at hst c4 kM;rw[Ut]at c4;have wJ:∀i:Int,0<=i->i<(aq m.1 t).2.2.1.length->wd m.1 (qi (aq m.1 t).2.2.1 i).1≠dM t (aq m.1 t).1:=fun i a b=>c4 hst i a (by omega);have oT:=I.mem.kV t t0 t1 hown;have Xp:=(I.mem.dy t t0 t1).st.2 oT;by_cases hy:(aq m.1 t).2.1=2
   .rw[aj hy];obtain⟨k,hk,_⟩:=I.call.jN t t0 t1 ho;have fL:∀u:Int,0<=u->ai (d_ (cH m m.1) t (aq m.1 t).2.2.2.1) u=if u=t then ((ai m t).1,(ai m t).2.1+1,false,[],[],()) else ai m u:=fun u u0=>by
     unfold d_;have h2:(ig (cH m m.1) t (aq m.1 t).2.2.2.1).2.1=m.2.1:=by unfold ig;split<;>rfl
     rw[qR (by rw[h2];exact⟨t0,t1⟩) u0,zO h2 u];rfl
    refine M0 (m:=m) t0 t1 I.n I.time ?_ I.th ho I.call hk (by unfold mX;rw[aj ⟨hown,hy⟩]) (fun _ _ _=>rfl) I.rep I.first;refine Q5 I.mem t0 t1 hst wJ (fun u u0 hu=>?_) ?_
    .unfold bw;rw[show d_ m t (aq m.1 t).2.2.2.1=d_ (cH m m.1) t (aq m.1 t).2.2.2.1 from rfl,fL u u0,af hu]
    .unfold bw;rw[show d_ m t (aq m.1 t).2.2.2.1=d_ (cH m m.1) t (aq m.1 t).2.2.2.1 from rfl,fL t t0,aj rfl];simp[bC]
   .rw[af hy];refine Bk I t0 t1 ?_ (fun u _ _ _=>⟨rfl,rfl⟩) (fun k hk=>hk) ?_ ⟨rfl,rfl,rfl⟩ (fun u u0 u1=>?_) (fun p _ _=>rfl)
    .refine Q5 I.mem t0 t1 hst wJ (fun u u0 hu=>?_) ?_
     .unfold bw;rw[qR (m:=cH m m.1) ⟨t0,t1⟩ u0,af hu];exact iY
     .unfold bw;rw[qR (m:=cH m m.1) ⟨t0,t1⟩ t0,aj rfl];simp[bC]
    .exact T.rest _ (fun _=>T.on ho)
    .unfold mX;rw[qR (m:=cH m m.1) ⟨t0,t1⟩ u0];by_cases q:u=t
     .rw[aj q,q,af (by simp[bC]),af (fun z=>hy z.2)]
     .rw[af q];rfl
  .have hlt:h.2.2.2.1<(aq m.1 h.1).2.2.1.length:=by omega
   have i0:=H.fin.1;have iR:=I.mem.gU u0 u1 i0 hlt;by_cases hmk:wd m.1 (qi (aq m.1 h.1).2.2.1 h.2.2.2.1).1=dM h.1 h.2.1
   .have e:q7 m.1 h=(ep m.1 (qi (aq m.1 h.1).2.2.1 h.2.2.2.1).1 (if (aq m.1 h.1).2.1=2 then (qi (aq m.1 h.1).2.2.1 h.2.2.2.1).2.2.1 else (qi (aq m.1 h.1).2.2.1 h.2.2.2.1).2.1,0,0,()),(h.1,h.2.1,h.2.2.1,h.2.2.2.1+1,()),dH,0,()):=by unfold q7;rw[af hd,af hst,af kM,aj hmk]
    obtain⟨hM,hV,hH⟩:=MU I.mem u0 u1 hst i0 hlt (by rw[<-hd'];exact hmk);have hn:bV (ep m.1 (qi (aq m.1 h.1).2.2.1 h.2.2.2.1).1 (if (aq m.1 h.1).2.1=2 then (qi (aq m.1 h.1).2.2.1 h.2.2.2.1).2.2.1 else (qi (aq m.1 h.1).2.2.1 h.2.2.2.1).2.1,0,0,())) m.2.1.length (h.1,h.2.1,h.2.2.1,h.2.2.2.1+1,()):=by
     refine⟨H.t,H.seq,H.rU,⟨by dsimp only;omega,by dsimp only;have:=(I.mem.dy _ u0 u1).len;omega⟩,fun _=>⟨c1,by dsimp only;exact hlt,fun q=>absurd q hst,fun _ i a b=>?_⟩⟩;dsimp only at b⊢;have hlen:=I.mem.len;rw[show ∀w,aq (ep m.1 (qi (aq m.1 h.1).2.2.1 h.2.2.2.1).1 w) h.1=aq m.1 h.1 from fun w=>rfl];have Ad:=I.mem.gU u0 u1 a (by omega:i<_);rw[Ff (by omega) Ad.1.1];by_cases hi:(qi (aq m.1 h.1).2.2.1 i).1=(qi (aq m.1 h.1).2.2.1 h.2.2.2.1).1
     .rw[aj hi];exact vf rfl u0
     .rw[af hi];exact c4 hst i a (by
       by_cases q:i=h.2.2.2.1
       .exact absurd (by rw[q]) hi
       .omega)
    unfold kE;rw[hh,e];dsimp only;rw[af (by decide),af (by decide),af (by decide)];obtain⟨p1,p2,p3,p4⟩:=TS hH hn rfl rfl;exact zU I t0 t1 ho hM (fun u _ _=>⟨rfl,rfl,iY⟩) hH p1 p2 p3 p4 hV
   .have e:q7 m.1 h=(m.1,(h.1,h.2.1,h.2.2.1,h.2.2.2.1+1,()),dH,0,()):=by unfold q7;rw[af hd,af hst,af kM,af hmk]
    have hn:bV m.1 m.2.1.length (h.1,h.2.1,h.2.2.1,h.2.2.2.1+1,()):=by
     refine⟨H.t,H.seq,H.rU,⟨by dsimp only;omega,by dsimp only;have:=(I.mem.dy _ u0 u1).len;omega⟩,fun _=>⟨c1,by dsimp only;exact hlt,fun q=>absurd q hst,fun _ i a b=>?_⟩⟩;dsimp only at b⊢;by_cases q:i=h.2.2.2.1
     .rw[q];exact hmk
     .exact c4 hst i a (by omega)
    unfold kE;rw[hh,e];dsimp only;rw[af (by decide),af (by decide),af (by decide)];obtain⟨p1,p2,p3,p4⟩:=TS (fun k hk=>hk) hn rfl rfl;exact zU I t0 t1 ho I.mem (fun u _ _=>⟨rfl,rfl,iY⟩) (fun k hk=>hk) p1 p2 p3 p4 (fun p _ _=>rfl)
theorem Bv{m:aG}(a:aS){t u:Int}{x:cU}(h:0<=t/\t<m.2.1.length)(u0:0<=u):ai (cA (cH m a) t x) u=if u=t then x else ai m u:=qR (m:=cH m a) h u0
theorem acU{got:dL}(h:sj got){q v:Int}(hv:0<=v/\v<=6):sj (got++[(q,v,())]):=by
 intro g hg;rcases bN.1 hg with k | k
 .exact h g k
 .rw[d6]at k;rw[k];exact hv
theorem Sh{m:aG}(I:Inv m){t:Int}(t0:0<=t)(t1:t<m.2.1.length)(ho:(ai m t).2.2.1=true)(hs:(ai m t).2.2.2.2.1=[])(oT:(aq m.1 t).1+1<=m.2.2.1):Inv (tJ m t):=by
  have T:=I.th t t0 t1;have hop:=T.op ho;have iZ:=zQ (t:=t) hs;have hno:¬ bw m t:=by unfold bw;rw[iZ];simp
  obtain⟨q,B,hq⟩:=T.read ho iZ;have nL:=T.along ho;obtain⟨Ja,zw⟩:=J4 hop T.got nL;have oz:C9 (ai m t)=q/\(0<=q/\q<20)/\q∉gY (ai m t).2.2.2.1/\(ai m t).2.2.2.1.length<8:=by
    rcases zw with h | ⟨q',B',h,h2,h3,h4,h5⟩
    . rw[hq]at h
      have:=er List.length h.1;simp at this
    . rw[hq]at h
      have:=FU h;simp only[eY]at this;obtain⟨rfl,_⟩:=this;exact⟨h2,h3,h4,h5⟩
  obtain⟨oz,pZ,Xi,hlen⟩:=oz;obtain⟨R,hR,uf,hv⟩:=I.rep;unfold tJ;have Ek:ir m (ai m t)=(ai m t).2.2.2.1++[(q,(wd m.1 q).1,())]:=by unfold ir;rw[oz]
  rw[oz,Ek];by_cases hw:(wd m.1 q).2.1≠0
  . rw[aj hw]
    rcases I.mem.word q pZ.1 pZ.2 with h | ⟨v,v0,v1,vo,vm,j,j0,j1,je⟩
    . exact absurd h.1 hw
    have e2:((wd m.1 q).2.1-1,(wd m.1 q).2.2.1,(0:Int),(0:Int),())=(v,(aq m.1 v).1,0,0,()):=by rw[vm];simp only[dM];rw[show v+1-1=v by omega]
    rw[e2];have hn:bV m.1 m.2.1.length (v,(aq m.1 v).1,0,0,()):=by
      refine⟨⟨v0,v1⟩,⟨I.mem.kV v v0 v1 vo,eA _⟩,⟨by dsimp only;omega,by dsimp only;omega⟩,⟨by dsimp only;omega,by dsimp only;omega⟩,fun _=>⟨by dsimp only;omega,by dsimp only;omega,fun _=>⟨rfl,fun i a b=>?_⟩,fun _ i a b=>?_⟩⟩
      . dsimp only at b;omega
      . dsimp only at b;omega
    obtain⟨p1,p2,p3,p4⟩:=MD T hn (fun e=>hno (by rw[<-show v=t from e];exact vo)) (.inl hs);exact zU I t0 t1 ho I.mem (fun u _ _=>⟨rfl,rfl,iY⟩) (fun k hk=>hk) p1 p2 p3 p4 (fun p _ _=>rfl)
  have hw0:(wd m.1 q).2.1=0:=by omega
  rw[af hw];have hval:(wd m.1 q).1=b_ R q:=by rw[<-uZ hw0,hv q pZ.1 pZ.2]
  rw[hval];have hg':sj ((ai m t).2.2.2.1++[(q,b_ R q,())]):=acU T.got (BY hR q pZ);have tX:qK ((ai m t).2.2.2.1++[(q,b_ R q,())]) (aV (ai m t)):=aa7 hop T.got nL hq Xi _;obtain⟨al6,Ld⟩:=J4 hop hg' tX;by_cases hlt:¬ (run ((ai m t).2.2.2.1++[(q,b_ R q,())]) (prog (aV (ai m t)))).2<0
  . have ue:gh (aV (ai m t)) ((ai m t).2.2.2.1++[(q,b_ R q,())])=(Nw,false,()):=by unfold gh;rw[af (fun z=>hlt z.2)]
    rw[ue,aj rfl];have hb:bC (rP (ai m t) ((ai m t).2.2.2.1++[(q,b_ R q,())])) t=bC (ai m t) t:=rfl;refine Bk I t0 t1 (I.mem.kU fun u u0 _=>R9 (a:=m.1) t0 t1 hb u u0) (fun u _ _ _=>⟨rfl,rfl⟩) (fun k hk=>hk) ?_ ⟨rfl,rfl,rfl⟩ (fun u u0 _=>Mt t0 t1 u0 hb iY rfl) (fun p _ _=>rfl)
    exact { ops:=T.ops,pc:=T.pc,on:=T.on,off:=fun e=>by rw[show(rP (ai m t) ((ai m t).2.2.2.1++[(q,b_ R q,())])).2.2.1=(ai m t).2.2.1 from rfl,ho]at e;cases e
            got:=hg',st:=T.st,dZ:=T.dZ,own:=T.own,along:=fun _=>tX
            read:=fun _ _=>by
              rcases Ld with h | ⟨q',B',h,_⟩
              . exact absurd h.2 (by omega)
              . exact⟨q',B',h⟩
            plan:=fun e=>by rw[hb,iZ]at e;cases e }
  replace hlt:(run ((ai m t).2.2.2.1++[(q,b_ R q,())]) (prog (aV (ai m t)))).2<0:=by omega
  have pW:path (dJ ((ai m t).2.2.2.1++[(q,b_ R q,())])) (prog (aV (ai m t)))=gY ((ai m t).2.2.2.1++[(q,b_ R q,())]):=by
    rcases Ld with h | ⟨q',B',h,h2,h3,_⟩
    . exact h.1
    . omega
  obtain⟨k,hk,uc⟩:=I.call.jN t t0 t1 ho;have Uy:mX m t=none:=by unfold mX;rw[af (fun z=>by rw[iZ]at z;cases z.1)]
  cases dz:mJ (aV (ai m t)) ((ai m t).2.2.2.1++[(q,b_ R q,())]) with
  | some y=>
    have ue:gh (aV (ai m t)) ((ai m t).2.2.2.1++[(q,b_ R q,())])=((true,(y.1,y.2,()),[],()),true,()):=by unfold gh;rw[aj ⟨hop,hlt⟩,dz]
    rw[ue];dsimp only;rw[af (by simp),aj rfl];obtain⟨hout,Wr,hyl⟩:=akZ hR hop pW dz;have hC:kF m.2.2.2.1 t=k:=I.call.ni hk;have e:iB m t (y.1,y.2,())=(m.1,m.2.1,m.2.2.1,m.2.2.2.1.set k.toNat ((ay m.2.2.2.1 k).1,(ay m.2.2.2.1 k).2.1,(ay m.2.2.2.1 k).2.2.1,m.2.2.1,(ay m.2.2.2.1 k).2.2.2.2.1,(y.1,y.2,()),()),m.2.2.2.2.1++[k],m.2.2.2.2.2):=by unfold iB;rw[hC,af (by have:=hk.dQ;omega)];rfl
    have Us:=I.call.so (r:=(y.1,y.2,())) t0 t1 hk Uy hyl (oa:=fun u=>if u=t then some (y.1,y.2,()) else mX m u) (aj rfl) (fun u _ h=>af h);have hkn:k∉m.2.2.2.2.1:=fun z=>by
      have h1:=(I.call.gI k z).2.2;have h2:=(I.call.qE t k t0 t1 hk).1 Uy;omega
    have gk:ay (m.2.2.2.1.set k.toNat ((ay m.2.2.2.1 k).1,(ay m.2.2.2.1 k).2.1,(ay m.2.2.2.1 k).2.2.1,m.2.2.1,(ay m.2.2.2.1 k).2.2.2.2.1,(y.1,y.2,()),())) k=((ay m.2.2.2.1 k).1,(ay m.2.2.2.1 k).2.1,(ay m.2.2.2.1 k).2.2.1,m.2.2.1,(ay m.2.2.2.1 k).2.2.2.2.1,(y.1,y.2,()),()):=by rw[Dx hk.dQ hk.dQ.1,aj rfl]
    have Ll:iE (m.2.2.2.1.set k.toNat ((ay m.2.2.2.1 k).1,(ay m.2.2.2.1 k).2.1,(ay m.2.2.2.1 k).2.2.1,m.2.2.1,(ay m.2.2.2.1 k).2.2.2.2.1,(y.1,y.2,()),())) m.2.2.2.2.2.1 (m.2.2.2.2.1++[k]) R:=by
      have w9:iE (m.2.2.2.1.set k.toNat ((ay m.2.2.2.1 k).1,(ay m.2.2.2.1 k).2.1,(ay m.2.2.2.1 k).2.2.1,m.2.2.1,(ay m.2.2.2.1 k).2.2.2.2.1,(y.1,y.2,()),())) m.2.2.2.2.2.1 m.2.2.2.2.1 R:=by refine uf.same fun j hj=>?_;rw[Dx hk.dQ (I.call.gI j hj).1,af (fun z:j=k=>hkn (by rw[<-z];exact hj))];exact⟨rfl,rfl⟩
      have h:=iE.snoc (k:=k) w9 hR (by rw[gk];dsimp only;rw[uc];exact hout);rw[gk]at h;dsimp only at h;rw[show jf R (ay m.2.2.2.1 k).2.1 y.1=R by rw[uc];exact Wr]at h;exact h
    rw[e];have fL:∀u:Int,0<=u->ai (d_ (m.1,m.2.1,m.2.2.1,m.2.2.2.1.set k.toNat ((ay m.2.2.2.1 k).1,(ay m.2.2.2.1 k).2.1,(ay m.2.2.2.1 k).2.2.1,m.2.2.1,(ay m.2.2.2.1 k).2.2.2.2.1,(y.1,y.2,()),()),m.2.2.2.2.1++[k],m.2.2.2.2.2) t (y.1,y.2,())) u=if u=t then ((ai m t).1,(ai m t).2.1+1,false,[],[],()) else ai m u:=by
      intro u u0;unfold d_;have h2:(ig (m.1,m.2.1,m.2.2.1,m.2.2.2.1.set k.toNat ((ay m.2.2.2.1 k).1,(ay m.2.2.2.1 k).2.1,(ay m.2.2.2.1 k).2.2.1,m.2.2.1,(ay m.2.2.2.1 k).2.2.2.2.1,(y.1,y.2,()),()),m.2.2.2.2.1++[k],m.2.2.2.2.2) t (y.1,y.2,())).2.1=m.2.1:=by unfold ig;split<;>rfl
      rw[qR (by rw[h2];exact⟨t0,t1⟩) u0,zO h2 u];rfl
    refine M0 (m:=(m.1,m.2.1,m.2.2.1,m.2.2.2.1.set k.toNat ((ay m.2.2.2.1 k).1,(ay m.2.2.2.1 k).2.1,(ay m.2.2.2.1 k).2.2.1,m.2.2.1,(ay m.2.2.2.1 k).2.2.2.2.1,(y.1,y.2,()),()),m.2.2.2.2.1++[k],m.2.2.2.2.2)) (k:=k) (yes:=fun u=>if u=t then some (y.1,y.2,()) else mX m u)
      t0 t1 I.n I.time ?_ I.th ho Us ?_ (aj rfl) (fun u _ h=>af h) ⟨R,hR,Ll,hv⟩ I.first
    . refine I.mem.kU fun u u0 _=>?_
      unfold bw;rw[fL u u0];by_cases h:u=t
      . rw[aj h,h,iZ];simp[bC]
      . rw[af h]
    . exact⟨by simpa using hk.dQ,by show(ay (m.2.2.2.1.set _ _) k).1=t;rw[gk];exact hk.t,by show(ay (m.2.2.2.1.set _ _) k).2.2.2.2.1 = -1;rw[gk];exact hk.fin⟩
  | none=>
    have ue:gh (aV (ai m t)) ((ai m t).2.2.2.1++[(q,b_ R q,())])=((false,eF (aV (ai m t)) ((ai m t).2.2.2.1++[(q,b_ R q,())]),dI (aV (ai m t)) ((ai m t).2.2.2.1++[(q,b_ R q,())]),()),true,()):=by unfold gh;rw[aj ⟨hop,hlt⟩,dz]
    rw[ue];dsimp only;rw[af (by simp),af (by simp)];have hE:=MR hop hg' tX pW dz;have hEr:=MS hop hg' tX pW dz;have hEl:=(Be hop hg' tX pW dz).2.2;rw[cT,nG]at hEl;generalize hx:qW (rP (ai m t) ((ai m t).2.2.2.1++[(q,b_ R q,())])) (t,(aq m.1 t).1+1,0,0,())=x;have f8:x.2.2.2.2.1=[(t,(aq m.1 t).1+1,0,0,())]:=by rw[<-hx];show(ai m t).2.2.2.2.1++_=_;rw[hs];rfl
    have wT:x.2.2.2.1=(ai m t).2.2.2.1++[(q,b_ R q,())]:=by rw[<-hx];rfl
    have KX:aV x=aV (ai m t):=by rw[<-hx];rfl
    have oA:x.2.2.1=true:=by rw[<-hx];exact ho
    have CY:bC x t=true:=(HE x t).2 ⟨_,_,f8,rfl⟩;have me:=I.mem.dw;obtain⟨hM,hH,hV⟩:=akX I.mem t0 t1 hno (lS:=bw (cA (cH m (bJ m.1 t ((aq m.1 t).1+1,1,dI (aV (ai m t)) ((ai m t).2.2.2.1++[(q,b_ R q,())]),eF (aV (ai m t)) ((ai m t).2.2.2.1++[(q,b_ R q,())]),()))) t x))
      (by unfold bw;rw[Bv _ ⟨t0,t1⟩ t0,aj rfl];exact CY) (fun u u0 h=>by unfold bw;rw[Bv _ ⟨t0,t1⟩ u0,af h])
      (r:=eF (aV (ai m t)) ((ai m t).2.2.2.1++[(q,b_ R q,())])) hE (by omega) hEr oT (MF _ _)
    have hd:∀u:Int,0<=u->aq (bJ m.1 t ((aq m.1 t).1+1,1,dI (aV (ai m t)) ((ai m t).2.2.2.1++[(q,b_ R q,())]),eF (aV (ai m t)) ((ai m t).2.2.2.1++[(q,b_ R q,())]),())) u=if u=t then ((aq m.1 t).1+1,1,dI (aV (ai m t)) ((ai m t).2.2.2.1++[(q,b_ R q,())]),eF (aV (ai m t)) ((ai m t).2.2.2.1++[(q,b_ R q,())]),()) else aq m.1 u:=fun u u0=>n5 (by omega) u0
    have hdt:=(hd t t0).trans (aj rfl);have al7:=(I.mem.dy t t0 t1).seq.1;refine Bk I t0 t1 hM (fun u u0 _ h=>by rw[hd u u0,af h];exact⟨rfl,rfl⟩) hH ?_ (by rw[<-hx];exact⟨rfl,rfl,rfl⟩) (fun u u0 _=>?_) hV
    . exact { ops:=by rw[<-hx];exact T.ops,pc:=by rw[<-hx];exact T.pc,on:=fun _=>by rw[<-hx];exact T.on ho,off:=fun e=>by rw[oA]at e;cases e
              got:=by rw[wT];exact hg'
              st:=.inr (.inl ⟨_,f8⟩)
              dZ:=fun k hk=>by
                rw[f8,d6]at hk;subst hk;refine⟨⟨t0,t1⟩,⟨by dsimp only;omega,by dsimp only;rw[hdt];exact eA _⟩,⟨by dsimp only;omega,by dsimp only;omega⟩,⟨by dsimp only;omega,by dsimp only;omega⟩,fun _=>⟨by dsimp only;omega,by dsimp only;omega,fun _=>⟨rfl,fun i a b=>?_⟩,fun _ i a b=>?_⟩⟩
                . dsimp only at b;omega
                . dsimp only at b;omega
              own:=fun k hk _=>by
                rw[f8,d6]at hk;rw[hk,hdt]
              along:=fun _=>by rw[wT,KX];exact tX
              read:=fun _ e=>by rw[CY]at e;cases e
              plan:=fun _=>by rw[wT,KX,hdt];exact⟨pW,dz,rfl,rfl⟩ }
    . by_cases h:u=t
      . subst h
        rw[Uy];unfold mX;rw[show(cA (cH m (bJ m.1 u ((aq m.1 u).1+1,1,dI (aV (ai m u)) ((ai m u).2.2.2.1++[(q,b_ R q,())]),eF (aV (ai m u)) ((ai m u).2.2.2.1++[(q,b_ R q,())]),()))) u x).1=bJ m.1 u ((aq m.1 u).1+1,1,dI (aV (ai m u)) ((ai m u).2.2.2.1++[(q,b_ R q,())]),eF (aV (ai m u)) ((ai m u).2.2.2.1++[(q,b_ R q,())]),()) from rfl,hdt,af (fun z=>by have:=z.2;dsimp only at this;omega)]
      . unfold mX
        rw[show(cA (cH m (bJ m.1 t ((aq m.1 t).1+1,1,dI (aV (ai m t)) ((ai m t).2.2.2.1++[(q,b_ R q,())]),eF (aV (ai m t)) ((ai m t).2.2.2.1++[(q,b_ R q,())]),()))) t x).1=bJ m.1 t ((aq m.1 t).1+1,1,dI (aV (ai m t)) ((ai m t).2.2.2.1++[(q,b_ R q,())]),eF (aV (ai m t)) ((ai m t).2.2.2.1++[(q,b_ R q,())]),()) from rfl,hd u u0,af h,Bv _ ⟨t0,t1⟩ u0,af h]
theorem IQ{m:aG}(I:Inv m):Inv (tick m) where
 n:=I.n
 time:=by have:=I.time;show 0<=m.2.2.1+1;omega
 mem:=I.mem.C6 (by show m.2.2.1<=m.2.2.1+1;omega)
 th:=I.th
 call:=I.call.same (by show m.2.2.1<=m.2.2.1+1;omega) (fun _ _ _=>⟨rfl,rfl,rfl,rfl⟩)
 rep:=I.rep
 first:=I.first
theorem akD{m:aG}(I:Inv m){t:Int}(t0:0<=t)(t1:t<m.2.1.length)(ho:(ai m t).2.2.1=false)(hp:(ai m t).2.1<(ai m t).1.length):Inv (pO (tick m) t):=by
 have T:=I.th t t0 t1;have An:=T.pc;have hoff:=T.off ho;have hop:dh (aV (ai m t))=true:=by unfold aV;rw[qv (show(ai m t).2.1.toNat<(ai m t).1.length by omega)];exact T.ops.2 _ (ez _)
 have hl:(pO (tick m) t).2.1.length=m.2.1.length:=oZ _ _ _;have fL:∀u:Int,0<=u->ai (pO (tick m) t) u=if u=t then ((ai m t).1,(ai m t).2.1,true,(ai m t).2.2.2) else ai m u:=fun u u0=>qR (m:=(m.1,m.2.1,_)) ⟨t0,t1⟩ u0
 have hown:∀u:Int,0<=u->bC (ai (pO (tick m) t) u) u=bC (ai m u) u:=by
  intro u u0;rw[fL u u0];by_cases h:u=t
  .subst h;rw[aj rfl];rfl
  .rw[af h]
 have Ak:(ai m t).2.2.2=([],[],()):=Prod.ext hoff.1 (Prod.ext hoff.2 rfl);refine⟨by rw[hl];exact I.n,by have:=I.time;show 0<=m.2.2.1+1;omega,?_,?_,?_,?_,I.first⟩
 .rw[hl];refine(I.mem.C6 (by show m.2.2.1<=m.2.2.1+1;omega)).kU fun u u0 _=>?_;unfold bw;rw[hown u u0]
 .intro u u0 u1;rw[hl]at u1⊢;rw[fL u u0];by_cases h:u=t
  .subst h;rw[aj rfl,Ak];exact T.rest true (fun _=>hp)
  .rw[af h];exact I.th u u0 u1
 .rw[hl];have hb:=I.call.zi t0 t1 ho hop (by unfold mX;rw[af (fun z=>by rw[zQ hoff.2]at z;cases z.1)]) (on':=fun u=>(ai (pO (tick m) t) u).2.2.1) (by rw[fL t t0,aj rfl]) (fun u u0 h=>by rw[fL u u0,af h]) I.time;refine(hb.same (eA _) fun u u0 u1=>⟨rfl,?_,?_,?_⟩)
  .rw[fL u u0];split
   .next h=>rw[h]
   .rfl
  .rw[fL u u0];split
   .next h=>rw[h];rfl
   .rfl
  .unfold mX;rw[hown u u0];rfl
 .obtain⟨R,h1,h2,h3⟩:=I.rep;refine⟨R,h1,?_,h3⟩;show iE (m.2.2.2.1++_) _ _ R;refine h2.same fun j hj=>?_;have hj':=I.call.gI j hj;rw[HB hj'.1,aj hj'.2.1];exact⟨rfl,rfl⟩
theorem Si{m:aG}(I:Inv m){t:Int}(t0:0<=t)(t1:t<m.2.1.length)(hp:(ai m t).2.1<(ai m t).1.length):Inv (vn m t):=by
 unfold vn;by_cases h1:(ai m t).2.2.1=false
 .rw[aj h1];exact akD I t0 t1 h1 hp
 rw[af h1];by_cases h2:(ai m t).2.2.2.2.1≠[]
 .rw[aj h2];exact acZ (IQ I) t0 t1 h2
 .rw[af h2];refine Sh (IQ I) t0 t1 (by show(ai m t).2.2.1=true;simpa using h1) (by show(ai m t).2.2.2.2.1=[];simpa using h2) ?_;have:=(I.mem.dy t t0 t1).seq.2;show(aq m.1 t).1+1<=m.2.2.1+1;omega
abbrev BN:Ty:=(Ty.pair (Ty.int IntKind.i64) (Ty.pair (Ty.int IntKind.i64) (Ty.pair (Ty.sl (Ty.pair (Ty.int IntKind.i64) (Ty.pair (Ty.int IntKind.i64) (Ty.pair (Ty.int IntKind.i64) Ty.unit)))) (Ty.pair (Ty.pair (Ty.int IntKind.i64) (Ty.pair (Ty.sl (Ty.int IntKind.i64)) Ty.unit)) Ty.unit))))
theorem Sa{D:Den ctx}{n:Nat}{c:bk}{K0:Int->Option ((Int×Unit)×Unit)}{K1:Option ((Int×Unit)×Unit)}{l:List (nt)}(hl:l.length<=1000000){f:nt->Bool}(hf:∀x∈l,iK ctx D c [bL.val BN x] Ty.bool=some (f x)) :
  ∀(m i:Nat),i<=l.length->l.length-i<m->((l.drop i).any f=false->JG D n c K0 K1 m l (l.length:Int) (i:Int)=K1)/\
   ((l.drop i).any f=true->∃j:Nat,JG D n c K0 K1 m l (l.length:Int) (i:Int)=K0 (j:Int))
 | 0,i,_,h2=>by omega
 | m+1,i,h1,h2=>by
  simp only[JG,qez];by_cases h:i<l.length
  .have ih:=Sa (n:=n) (K0:=K0) (K1:=K1) hl hf m (i+1) (by omega) (by omega);have e:=hf l[i] (ez _);rw[qf (by omega),ix h,aF,eB,qv h,qu (by omega)];refine Eq.mpr (er (fun z=>((List.drop i l).any f=false->qd z _=K1)/\((List.drop i l).any f=true->∃j:Nat,qd z _=K0 (j:Int))) e) ?_;rw[qc,uP h,ym];cases hx:f l[i]
   .rw[aL,sA];exact ih
   .rw[aF,yo];exact⟨fun q=>(by cases q),fun _=>⟨i,rfl⟩⟩
  .rw[qg (by omega),uT h];exact⟨fun _=>rfl,fun q=>(by simp at q)⟩
theorem ah7{X:Ext}(hX:f4 X){n:Nat}(hn:W+2<=n){c:bk}{l:List (nt)}(hl:l.length<=1000000){f:nt->Bool}(hf:∀x∈l,iK ctx (DD X (n-2)) c [bL.val BN x] Ty.bool=some (f x)) :
  qd3 (DD X n) l c=some ((l.any f,()),()):=by
 obtain⟨n,rfl⟩:∃k,n=k+2:=⟨n-2,by omega⟩
 have hW:=ej;rw[qod hX];simp only[qd5,qhm];rw[qqj hX];simp only[qfa,qff,qep];have key:=Sa (D:=DD X n) (n:=n) (c:=c) (K0:=fun v=>qd9 (DD X n) n c v) (K1:=qea (DD X n) n c) hl hf n 0 (eZ _) (by omega);rw[jU]at key;rw[show(0:Int)=((0:Nat):Int) from rfl];cases hx:l.any f
 .rw[key.1 hx];simp[qea,qd]
 .obtain⟨j,hj⟩:=key.2 hx;rw[hj];simp[qd9,qd]
abbrev BI:Ty:=(Ty.pair (Ty.int IntKind.i64) (Ty.pair (Ty.int IntKind.i64) (Ty.pair (Ty.int IntKind.i64) Ty.unit)))
theorem Se{D:Den ctx}{n:Nat}{c:bk}{K0:Int->Option ((Int×Unit)×Unit)}{K1:Option ((Int×Unit)×Unit)}{l:List (lX)}(hl:l.length<=1000000){f:lX->Bool}(hf:∀x∈l,iK ctx D c [bL.val BI x] Ty.bool=some (f x)) :
  ∀(m i:Nat),i<=l.length->l.length-i<m->((l.drop i).any f=false->JJ D n c K0 K1 m l (l.length:Int) (i:Int)=K1)/\
   ((l.drop i).any f=true->∃j:Nat,JJ D n c K0 K1 m l (l.length:Int) (i:Int)=K0 (j:Int))
 | 0,i,_,h2=>by omega
 | m+1,i,h1,h2=>by
  simp only[JJ,qe5];by_cases h:i<l.length
  .have ih:=Se (n:=n) (K0:=K0) (K1:=K1) hl hf m (i+1) (by omega) (by omega);have e:=hf l[i] (ez _);rw[qf (by omega),ix h,aF,eB,qv h,qu (by omega)];refine Eq.mpr (er (fun z=>((List.drop i l).any f=false->qd z _=K1)/\((List.drop i l).any f=true->∃j:Nat,qd z _=K0 (j:Int))) e) ?_;rw[qc,uP h,ym];cases hx:f l[i]
   .rw[aL,sA];exact ih
   .rw[aF,yo];exact⟨fun q=>(by cases q),fun _=>⟨i,rfl⟩⟩
  .rw[qg (by omega),uT h];exact⟨fun _=>rfl,fun q=>(by simp at q)⟩
theorem ah_{X:Ext}(hX:f4 X){n:Nat}(hn:W+2<=n){c:bk}{l:List (lX)}(hl:l.length<=1000000){f:lX->Bool}(hf:∀x∈l,iK ctx (DD X (n-2)) c [bL.val BI x] Ty.bool=some (f x)) :
  qd4 (DD X n) l c=some ((l.any f,()),()):=by
 obtain⟨n,rfl⟩:∃k,n=k+2:=⟨n-2,by omega⟩
 have hW:=ej;rw[qog hX];simp only[qd8,qhp];rw[qqm hX];simp only[qfd,qfi,qes];have key:=Se (D:=DD X n) (n:=n) (c:=c) (K0:=fun v=>qef (DD X n) n c v) (K1:=qeg (DD X n) n c) hl hf n 0 (eZ _) (by omega);rw[jU]at key;rw[show(0:Int)=((0:Nat):Int) from rfl];cases hx:l.any f
 .rw[key.1 hx];simp[qeg,qd]
 .obtain⟨j,hj⟩:=key.2 hx;rw[hj];simp[qef,qd]
abbrev CD:Ty:=(Ty.pair (Ty.int IntKind.i64) (Ty.pair (Ty.int IntKind.i64) (Ty.pair (Ty.int IntKind.i64) Ty.unit)))
theorem Nv{D:Den ctx}{n:Nat}{c:bk}{K0:Int->Option ((Int×Unit)×Unit)}{K1:Option ((Int×Unit)×Unit)}{l:List (cK)}(hl:l.length<=1000000){f:cK->Bool}(hf:∀x∈l,iK ctx D c [bL.val CD x] Ty.bool=some (f x)) :
  ∀(m i:Nat),i<=l.length->l.length-i<m->((l.drop i).any f=false->JK D n c K0 K1 m l (l.length:Int) (i:Int)=K1)/\
   ((l.drop i).any f=true->∃j:Nat,JK D n c K0 K1 m l (l.length:Int) (i:Int)=K0 (j:Int))
 | 0,i,_,h2=>by omega
 | m+1,i,h1,h2=>by
  simp only[JK,qf7];by_cases h:i<l.length
  .have ih:=Nv (n:=n) (K0:=K0) (K1:=K1) hl hf m (i+1) (by omega) (by omega);have e:=hf l[i] (ez _);rw[qf (by omega),ix h,aF,eB,qv h,qu (by omega)];refine Eq.mpr (er (fun z=>((List.drop i l).any f=false->qd z _=K1)/\((List.drop i l).any f=true->∃j:Nat,qd z _=K0 (j:Int))) e) ?_;rw[qc,uP h,ym];cases hx:f l[i]
   .rw[aL,sA];exact ih
   .rw[aF,yo];exact⟨fun q=>(by cases q),fun _=>⟨i,rfl⟩⟩
  .rw[qg (by omega),uT h];exact⟨fun _=>rfl,fun q=>(by simp at q)⟩
theorem ajR{X:Ext}(hX:f4 X){n:Nat}(hn:W+2<=n){c:bk}{l:List (cK)}(hl:l.length<=1000000){f:cK->Bool}(hf:∀x∈l,iK ctx (DD X (n-2)) c [bL.val CD x] Ty.bool=some (f x)) :
  qfn (DD X n) l c=some ((l.any f,()),()):=by
 obtain⟨n,rfl⟩:∃k,n=k+2:=⟨n-2,by omega⟩
 have hW:=ej;rw[qrj hX];simp only[qfo,qi8];rw[quf hX];simp only[qgm,qgp,qfz];have key:=Nv (D:=DD X n) (n:=n) (c:=c) (K0:=fun v=>qfp (DD X n) n c v) (K1:=qfq (DD X n) n c) hl hf n 0 (eZ _) (by omega);rw[jU]at key;rw[show(0:Int)=((0:Nat):Int) from rfl];cases hx:l.any f
 .rw[key.1 hx];simp[qfq,qd]
 .obtain⟨j,hj⟩:=key.2 hx;rw[hj];simp[qfp,qd]
abbrev BH:Ty:=(Ty.pair (Ty.int IntKind.i64) (Ty.pair (Ty.int IntKind.i64) Ty.unit))
theorem Sd{D:Den ctx}{n:Nat}{c:bk}{K0:Int->Option ((Int×Unit)×Unit)}{K1:Option ((Int×Unit)×Unit)}{l:List (Int×Int×Unit)}(hl:l.length<=1000000){f:Int×Int×Unit->Bool}(hf:∀x∈l,iK ctx D c [bL.val BH x] Ty.bool=some (f x)) :
  ∀(m i:Nat),i<=l.length->l.length-i<m->((l.drop i).any f=false->JI D n c K0 K1 m l (l.length:Int) (i:Int)=K1)/\
   ((l.drop i).any f=true->∃j:Nat,JI D n c K0 K1 m l (l.length:Int) (i:Int)=K0 (j:Int))
 | 0,i,_,h2=>by omega
 | m+1,i,h1,h2=>by
  simp only[JI,qe3];by_cases h:i<l.length
  .have ih:=Sd (n:=n) (K0:=K0) (K1:=K1) hl hf m (i+1) (by omega) (by omega);have e:=hf l[i] (ez _);rw[qf (by omega),ix h,aF,eB,qv h,qu (by omega)];refine Eq.mpr (er (fun z=>((List.drop i l).any f=false->qd z _=K1)/\((List.drop i l).any f=true->∃j:Nat,qd z _=K0 (j:Int))) e) ?_;rw[qc,uP h,ym];cases hx:f l[i]
   .rw[aL,sA];exact ih
   .rw[aF,yo];exact⟨fun q=>(by cases q),fun _=>⟨i,rfl⟩⟩
  .rw[qg (by omega),uT h];exact⟨fun _=>rfl,fun q=>(by simp at q)⟩
theorem ah9{X:Ext}(hX:f4 X){n:Nat}(hn:W+2<=n){c:bk}{l:List (Int×Int×Unit)}(hl:l.length<=1000000){f:Int×Int×Unit->Bool}(hf:∀x∈l,iK ctx (DD X (n-2)) c [bL.val BH x] Ty.bool=some (f x)) :
  UR (DD X n) l c=some ((l.any f,()),()):=by
 obtain⟨n,rfl⟩:∃k,n=k+2:=⟨n-2,by omega⟩
 have hW:=ej;rw[qof hX];simp only[qd7,qho];rw[qql hX];simp only[qfc,qfh,qer];have key:=Sd (D:=DD X n) (n:=n) (c:=c) (K0:=fun v=>qed (DD X n) n c v) (K1:=qee (DD X n) n c) hl hf n 0 (eZ _) (by omega);rw[jU]at key;rw[show(0:Int)=((0:Nat):Int) from rfl];cases hx:l.any f
 .rw[key.1 hx];simp[qee,qd]
 .obtain⟨j,hj⟩:=key.2 hx;rw[hj];simp[qed,qd]
abbrev BG:Ty:=(Ty.pair (Ty.int IntKind.i64) (Ty.pair (Ty.int IntKind.i64) (Ty.pair (Ty.int IntKind.i64) (Ty.pair (Ty.int IntKind.i64) Ty.unit))))
theorem Sb{D:Den ctx}{n:Nat}{c:bk}{K0:Int->Option ((Int×Unit)×Unit)}{K1:Option ((Int×Unit)×Unit)}{l:List (gv)}(hl:l.length<=1000000){f:gv->Bool}(hf:∀x∈l,iK ctx D c [bL.val BG x] Ty.bool=some (f x)) :
  ∀(m i:Nat),i<=l.length->l.length-i<m->((l.drop i).any f=false->JH D n c K0 K1 m l (l.length:Int) (i:Int)=K1)/\
   ((l.drop i).any f=true->∃j:Nat,JH D n c K0 K1 m l (l.length:Int) (i:Int)=K0 (j:Int))
 | 0,i,_,h2=>by omega
 | m+1,i,h1,h2=>by
  simp only[JH,qe1];by_cases h:i<l.length
  .have ih:=Sb (n:=n) (K0:=K0) (K1:=K1) hl hf m (i+1) (by omega) (by omega);have e:=hf l[i] (ez _);rw[qf (by omega),ix h,aF,eB,qv h,qu (by omega)];refine Eq.mpr (er (fun z=>((List.drop i l).any f=false->qd z _=K1)/\((List.drop i l).any f=true->∃j:Nat,qd z _=K0 (j:Int))) e) ?_;rw[qc,uP h,ym];cases hx:f l[i]
   .rw[aL,sA];exact ih
   .rw[aF,yo];exact⟨fun q=>(by cases q),fun _=>⟨i,rfl⟩⟩
  .rw[qg (by omega),uT h];exact⟨fun _=>rfl,fun q=>(by simp at q)⟩
theorem ah8{X:Ext}(hX:f4 X){n:Nat}(hn:W+2<=n){c:bk}{l:List (gv)}(hl:l.length<=1000000){f:gv->Bool}(hf:∀x∈l,iK ctx (DD X (n-2)) c [bL.val BG x] Ty.bool=some (f x)) :
  UQ (DD X n) l c=some ((l.any f,()),()):=by
 obtain⟨n,rfl⟩:∃k,n=k+2:=⟨n-2,by omega⟩
 have hW:=ej;rw[qoe hX];simp only[qd6,qhn];rw[qqk hX];simp only[qfb,qfg,qeq];have key:=Sb (D:=DD X n) (n:=n) (c:=c) (K0:=fun v=>qeb (DD X n) n c v) (K1:=qec (DD X n) n c) hl hf n 0 (eZ _) (by omega);rw[jU]at key;rw[show(0:Int)=((0:Nat):Int) from rfl];cases hx:l.any f
 .rw[key.1 hx];simp[qec,qd]
 .obtain⟨j,hj⟩:=key.2 hx;rw[hj];simp[qeb,qd]
theorem jD{x a b:Int}(h:a<=x/\x<=b):bu x a b=true:=kZ.2 h
section
variable {X:Ext} (hX:f4 X) {n:Nat}
include hX
theorem AK(hn:2<=n)(x:Int):JP (DD X n) x=some ((bu x 0 1000,()),()):=by
 obtain⟨n,rfl⟩:∃k,n=k+1:=⟨n-1,by omega⟩
 rw[afG hX];simp only[qv0,q9c];rw[k_ hX (by omega),qc]
theorem MB(hn:2<=n)(x:Int):VE (DD X n) x=some ((bu x 0 19,()),()):=by
 obtain⟨n,rfl⟩:∃k,n=k+1:=⟨n-1,by omega⟩
 rw[ahr hX];simp only[YI,OX];rw[k_ hX (by omega),qc]
theorem RU(hn:3<=n){w:lX}{th:Int}(h:T4 w\/∃u s,0<=u/\u<th/\1<=s/\s<=1000000/\w=dM u s):Zx (DD X n) w th=some ((true,()),()):=by
 obtain⟨n,rfl⟩:∃k,n=k+1:=⟨n-1,by omega⟩
 rw[aiV hX];simp only[ZL,O7];rcases h with⟨h1,h2,h3,h4⟩ | ⟨u,s,h1,h2,h3,h4,e⟩
 .rw[qf h1,AK hX (by omega),qc];dsimp only;rw[jD ⟨h3,h4⟩,bA,bz h2]
 .have e1:w.1=0:=by rw[e];rfl
  have e2:w.2.1=u+1:=by rw[e];rfl
  have e3:w.2.2.1=s:=by rw[e];rfl
  rw[qg (by omega),qf e1,k_ hX (by omega),qc];dsimp only;rw[jD ⟨by omega,by omega⟩,aF,k_ hX (by omega),qc];dsimp only;rw[jD ⟨by omega,by omega⟩]
theorem Nr(N n:Nat)(hN:2<=N)(K0:Bool->nt->Option ((Bool×Unit)×Unit))(K1:nt->Option ((Bool×Unit)×Unit)){d:nt}{time:Int}(h:oh d time):∀(m i:Nat),i<=d.2.2.1.length->d.2.2.1.length-i<m->
  Tk (DD X N) n K0 K1 m d.2.2.1 (d.2.2.1.length:Int) (i:Int) d=K1 d
 | 0,i,_,h2=>by omega
 | m+1,i,h1,h2=>by
  have hlen:=h.len;simp only[Tk,Yw];by_cases hi:i<d.2.2.1.length
  .have hr:=h.dQ _ (ez hi);have ih:=Nr N n hN K0 K1 h m (i+1) (by omega) (by omega);rw[qf (by omega),ix hi,aF,eB,qv hi,qu (by omega),MB hX (by omega),qc];dsimp only;rw[jD ⟨hr.1.1,by omega⟩,cJ,aL,AK hX (by omega),qc];dsimp only;rw[jD hr.2.1,cJ,aL,AK hX (by omega),qc];dsimp only;rw[jD hr.2.2,cJ,aL];by_cases h0:i=0
   .rw[qg (by omega)];exact ih
   .have e:wrap .i64 ((i:Int)-1)=((i-1:Nat):Int):=by rw[qs (by omega) (by omega)];omega
    have hlt:i-1<d.2.2.1.length:=by omega
    have oO:=x9.1 h.z4 (i-1) i hlt hi (by omega);rw[qf (by omega),e,ix hlt,aF,eB,qv hlt,qg (by omega)];exact ih
  .rw[qg (by omega)]
theorem acj(hn:W+3<=n){d:nt}{time:Int}(h:oh d time)(ht:time<=1000000):Zv (DD X n) d=some ((true,()),()):=by
 obtain⟨n,rfl⟩:∃k,n=k+1:=⟨n-1,by omega⟩
 have hW:=ej;have hlen:=h.len;have hs:=h.seq;rw[aiQ hX];simp only[ZG,ZS,qyc];by_cases h0:d.1=0
 .rw[qf h0,h.st.1 h0];simp[dD]
 .have hst:=h.st.2 (by omega);have hL:=Nr hX n n (by omega) (fun bY eG=>q8w (DD X n) n bY eG) (fun sM=>qv8 (DD X n) n sM) h n 0 (eZ _) (by omega);rw[show((0:Nat):Int)=0 from rfl]at hL;rw[qg h0,hL];simp only[qv8];rw[k_ hX (by omega),qc];dsimp only;rw[jD ⟨by omega,by omega⟩,aF,k_ hX (by omega),qc];dsimp only;rw[jD hst,bA,bz (by omega)]
theorem N4(D:Den ctx)(n:Nat)(K0:Bool->eu->Option ((eu×Bool×Unit)×Unit))(K1:eu->Option ((eu×Bool×Unit)×Unit))(p:Int)(l:List eu)(hl:l.length<=1000)(z:eu):∀(m i:Nat),i<=l.length->l.length-i<m->
  S4 D n K0 K1 m p l (l.length:Int) (i:Int) z=match (l.drop i).find? (fun e=>decide (e.1=p)) with | some e=>K0 true e | none=>K1 z
 | 0,i,_,h2=>by omega
 | m+1,i,h1,h2=>by
  simp only[S4,qye];by_cases hi:i<l.length
  .have ih:=N4 D n K0 K1 p l hl z m (i+1) (by omega) (by omega);rw[qf (by omega),ix hi,aF,eB,qv hi,qu (by omega),uP hi,List.find?_cons];by_cases h:l[i].1=p
   .rw[qf h,bz h]
   .rw[qg h,b7 h];exact ih
  .rw[qg (by omega),uT hi];rfl
theorem Q0(hn:W+1<=n)(d:nt)(hl:d.2.2.1.length<=1000)(p:Int):VB (DD X n) d p=some ((jG d.2.2.1 p,d.2.2.1.any (fun e:eu=>decide (e.1=p)),()),()):=by
 obtain⟨n,rfl⟩:∃k,n=k+1:=⟨n-1,by omega⟩
 have hW:=ej;rw[ahN hX];simp only[X6,Yx,qv9];have hL:=N4 (X:=X) hX (DD X n) n (fun bY eG=>q6b (DD X n) n bY eG) (fun sM=>q6c (DD X n) n sM) p d.2.2.1 hl (0,0,0,()) n 0 (eZ _) (by omega);rw[show((0:Nat):Int)=0 from rfl]at hL;rw[hL,jU];unfold jG;cases hf:d.2.2.1.find? (fun e:eu=>decide (e.1=p)) with
 | none=>
  have:(d.2.2.1.any fun e:eu=>decide (e.1=p))=false:=by rw[List.any_eq_false];rw[List.find?_eq_none]at hf;exact hf
  rw[this];rfl
 | some e=>
  have:(d.2.2.1.any fun e:eu=>decide (e.1=p))=true:=by rw[List.any_eq_true];exact⟨e,List.mem_of_find?_eq_some hf,List.find?_some (p:=fun e:eu=>decide (e.1=p)) hf⟩
  rw[this];rfl
theorem acR(hn:W+4<=n)(d:nt){time:Int}(h:oh d time)(ht:time<=1000000):iK ctx (DD X n) (bk.mk 110 []) [bL.val BN d] Ty.bool=some false:=by
 obtain⟨n,rfl⟩:∃k,n=k+1:=⟨n-1,by omega⟩
 have e:∀D:Den ctx,iK ctx D (bk.mk 110 []) [bL.val BN d] Ty.bool=(OI D d).bind fun r=>some r.1.1:=fun D=>by kernel_rfl
 rw[e,ahR hX];simp only[X_,OA];rw[acj hX (by omega) h ht,qc];rfl
theorem M9(N n:Nat)(hN:W+3<=N)(K0:Bool->Option ((Bool×Unit)×Unit))(K1:Option ((Bool×Unit)×Unit)){m:aS}{k:Nat}{time:Int}{own:Int->Prop}(I:eX m k time own)(ht:time<=1000000)(hk:k<=4):∀(c i:Nat),i<=m.1.length->m.1.length-i<c->
  Tt (DD X N) n K0 K1 c m.1 (m.1.length:Int) (i:Int) m=K1
 | 0,i,_,h2=>by omega
 | c+1,i,h1,h2=>by
  have hlen:=I.len;have hd:=I.dw;simp only[Tt,ZV];by_cases hi:i<m.1.length
  .have ih:=M9 N n hN K0 K1 I ht hk c (i+1) (by omega) (by omega);have hw:wd m (i:Int)=m.1[i]:=by unfold wd;rw[eB,qv hi]
   have oC:=I.word (i:Int) (by omega) (by omega);unfold Bz at oC;rw[hw]at oC;rw[qf (by omega),ix hi,aF,eB,qv hi,qu (by omega)];rcases oC with h | ⟨u,u0,u1,uo,e,j,j0,j1,je⟩
   .rw[RU hX (by omega) (.inl h),qc];dsimp only;rw[cJ,aL,qf h.1];exact ih
   .have hs:=I.kV u u0 u1 uo;have Ut:=(I.dy u u0 u1).seq;have me:=(I.dy u u0 u1).len;have e2:(m.1[i]).2.1=u+1:=by rw[e];rfl
    have e3:(m.1[i]).2.2.1=(aq m u).1:=by rw[e];rfl
    rw[RU hX (by omega) (.inr ⟨u,_,u0,by omega,hs,by omega,e⟩),qc];dsimp only;have e1:wrap .i64 ((m.1[i]).2.1-1)=u:=by rw[qs (by omega) (by omega)];omega
    rw[cJ,aL,qg (by omega),e1,fI u0 (by omega),aF];have Ac:m.2.1.getD u.toNat (0,0,[],(0,[],()),())=aq m u:=rfl;rw[Ac,Q0 hX (by omega) _ (by omega),qc];dsimp only;have Wt:((aq m u).2.2.1.any fun e:eu=>decide (e.1=(i:Int)))=true:=by rw[List.any_eq_true];exact⟨_,LS j0 j1,by rw[gQ];exact je⟩
    rw[Wt,cJ,bf,bH,bz e3.symm,cJ,aL];exact ih
  .rw[qg (by omega)]
theorem xG(hn:W+7<=n){m:aS}{k:Nat}{time:Int}{own:Int->Prop}(I:eX m k time own)(ht:time<=1000000)(h1:1<=k)(hk:k<=4):IB (DD X n) m=some ((true,()),()):=by
 obtain⟨n,rfl⟩:∃k,n=k+1:=⟨n-1,by omega⟩
 have hW:=ej;have hlen:=I.len;have hd:=I.dw;rw[ajK hX];simp only[q77,q8z,YC];have WG:∀x∈m.2.1,oh x time:=by intro x hx;obtain⟨j,hj,rfl⟩:=nH.1 hx;have:=I.dy (j:Int) (by omega) (by omega);unfold aq at this;rw[eB,qv hj]at this;exact this
 rw[show((m.1.length:Int) != 20)=false by rw[bH,bz (by omega)];rfl,aL,k_ hX (by omega),qc];dsimp only;rw[jD ⟨by omega,by omega⟩,cJ,aL,ah7 hX (by omega) (by omega) (f:=fun _=>false) (fun x hx=>acR hX (by omega) x (WG x hx) ht),qc];dsimp only;rw[show(m.2.1.any fun _=>false)=false by simp,aL];have hL:=M9 hX n n (by omega) (fun bY=>Ol (DD X n) n bY) (Om (DD X n) n) I ht hk n 0 (eZ _) (by omega);rw[show((0:Nat):Int)=0 from rfl]at hL;rw[hL];rfl
end
def g6(l:List gf)(t:Int):Nat->Int
 | 0=>0
 | i+1=>g6 l t i+if (l.getD i dC).1=t/\(l.getD i dC).2.2.2.2.1>=0 then 1 else 0
def gq(l:List gf)(t:Int):Nat->Int
 | 0=>0
 | i+1=>gq l t i+if (l.getD i dC).1=t/\¬ (l.getD i dC).2.2.2.2.1>=0 then 1 else 0
def zD(l:List gf)(t:Int):Nat->Int
 | 0=>-1
 | i+1=>if (l.getD i dC).1=t then (i:Int) else zD l t i
def m3(l:List gf):Nat->Int
 | 0=>0
 | i+1=>m3 l i+if (l.getD i dC).2.2.2.1>=0 then 1 else 0
theorem GU(l:List gf)(t:Int):∀i,i<=l.length->g6 l t i=(v8 (l.take i) t:Int)
 | 0,_=>by simp[g6,v8]
 | i+1,h=>by
  have hi:i<l.length:=by omega
  simp only[g6];rw[GU l t i (by omega),mO hi,QF,qv hi];by_cases q:l[i].1=t/\0<=l[i].2.2.2.2.1
  .rw[aj q,aj q];omega
  .rw[af q,af q];omega
theorem tA(l:List gf)(i:Nat):ay l (i:Int)=l.getD i dC:=by unfold ay;rw[eB]
theorem xH(l:List gf)(t:Int):∀i,0<=g6 l t i/\g6 l t i<=i/\0<=gq l t i/\gq l t i<=i/\0<=m3 l i/\m3 l i<=i/\-1<=zD l t i/\zD l t i<i
 | 0=>by simp[g6,gq,m3,zD]
 | i+1=>by
  have:=xH l t i;simp only[g6,gq,m3,zD];refine⟨?_,?_,?_,?_,?_,?_,?_,?_⟩<;>split<;>omega
section
variable {l:List gf} {ord:List Int} {n:Nat} {time:Int} {on:Int->Bool} {pc:Int->Int} {op:Int->cK} {yes:Int->Option fC} (I:gl l ord n time on pc op yes)
include I
theorem G0{t k:Int}(hk:f6 l t k):∀i,i<=l.length->k<i->zD l t i=k/\gq l t i=1
 | 0,_,h=>by have:=hk.dQ;omega
 | i+1,hi,h=>by
  simp only[zD,gq];have hr:=hk.dQ;by_cases e:k=(i:Int)
  .have h1:=hk.t;have h2:=hk.fin;rw[e,tA]at h1 h2;rw[aj h1,aj ⟨h1,by omega⟩];refine⟨e.symm,?_⟩;have key:∀j,j<=i->gq l t j=0:=by
    intro j
    induction j with
    | zero=>intro _;rfl
    | succ j ih=>
     intro hj;simp only[gq];rw[ih (by omega),af]
     .rfl
     .rintro⟨q1,q2⟩;have hf:=(I.c (j:Int) (by omega) (by omega)).fin;rw[tA]at hf;have:=I.uniq (t:=t) (i:=(j:Int)) ⟨⟨by omega,by omega⟩,by rw[tA];exact q1,by rw[tA];omega⟩ hk;omega
   rw[key i (cq _)];rfl
  .obtain⟨i1,i2⟩:=G0 hk i (by omega) (by omega);have hne:¬ (l.getD i dC).1=t:=by intro q;have:=(I.before k (i:Int) hr.1 (by omega) (by omega) (by rw[hk.t,tA];exact q.symm)).1;have:=hk.fin;omega
   rw[af hne,af (fun q=>hne q.1),i1,i2];exact⟨rfl,rfl⟩
theorem G5{t:Int}(h:∀k:Int,0<=k->k<l.length->(ay l k).1=t->0<=(ay l k).2.2.2.2.1):∀i,i<=l.length->gq l t i=0
 | 0,_=>rfl
 | i+1,hi=>by
  simp only[gq];rw[G5 h i (by omega),af]
  .rfl
  .rintro⟨q1,q2⟩;have:=h (i:Int) (by omega) (by omega) (by rw[tA];exact q1);rw[tA]at this;exact q2 this
theorem RY:m3 l l.length=ord.length:=by
 have key:∀i,m3 l i=((((List.range i).filter fun j=>decide (0<=(l.getD j dC).2.2.2.1)).map fun j:Nat=>(j:Int)).length:Int):=by
  intro i
  induction i with
  | zero=>rfl
  | succ i ih=>
   simp only[m3];rw[ih,List.range_succ,List.filter_append,pE,cT];by_cases h:0<=(l.getD i dC).2.2.2.1
   .rw[aj h,show [i].filter (fun j=>decide (0<=(l.getD j dC).2.2.2.1))=[i] by rw[Ca,bz h];rfl];rfl
   .rw[af h,show [i].filter (fun j=>decide (0<=(l.getD j dC).2.2.2.1))=[] by rw[Ca,b7 h];rfl];rfl
 rw[key];have hp:(((List.range l.length).filter fun j=>decide (0<=(l.getD j dC).2.2.2.1)).map fun j:Nat=>(j:Int)).Perm ord:=by
  rw[NX ?_ I.nodup]
  .intro a;simp only[eI,List.mem_filter,yl,gQ];constructor
   .rintro⟨j,⟨h1,h2⟩,rfl⟩;exact I.all (j:Int) (by omega) (by omega) (by rw[tA];exact h2)
   .intro ha;have:=I.gI a ha;refine⟨a.toNat,⟨by omega,?_⟩,by omega⟩;have h3:=this.2.2;unfold ay at h3;exact h3
  .rw[List.Nodup,List.pairwise_map];exact(List.nodup_range.filter _).imp fun {a b} h q=>h (by omega)
 rw[hp.length_eq]
theorem abR(hn:n<=3)(hp:∀t:Int,0<=t->t<n->pc t<=4):l.length<=15:=by
 have hO:∀t:Int,0<=t->t<n->gq l t l.length<=1:=by
  intro t t0 t1;cases ho:on t with
  | true=>obtain⟨k,hk,_⟩:=I.jN t t0 t1 ho;rw[(G0 I hk l.length (cq _) (by have:=hk.dQ;omega)).2];exact eA _
  | false=>rw[G5 I (I.off t t0 t1 ho) l.length (cq _)];decide
 have hE:∀t:Int,0<=t->t<n->g6 l t l.length<=4:=by intro t t0 t1;rw[GU l t l.length (cq _),B_,I.cnt t t0 t1];exact hp t t0 t1
 have hz:∀(t:Int),¬ (0<=t/\t<n)->∀i,i<=l.length->g6 l t i+gq l t i=0:=by
  intro t ht i
  induction i with
  | zero=>intro _;rfl
  | succ i ih=>intro hi;have:=(I.c (i:Int) (by omega) (by omega)).t;rw[tA]at this;simp only[g6,gq];rw[af (fun q=>ht (by rw[<-q.1];exact this)),af (fun q=>ht (by rw[<-q.1];exact this))];have:=ih (by omega);omega
 have hs:∀i,i<=l.length->(i:Int)=(g6 l 0 i+gq l 0 i)+(g6 l 1 i+gq l 1 i)+(g6 l 2 i+gq l 2 i):=by
  intro i
  induction i with
  | zero=>intro _;rfl
  | succ i ih=>
   intro hi;have h1:=(I.c (i:Int) (by omega) (by omega)).t;rw[tA]at h1;have h2:=ih (by omega);have one:∀t:Int,g6 l t (i+1)+gq l t (i+1)=g6 l t i+gq l t i+if (l.getD i dC).1=t then 1 else 0:=by
    intro t;simp only[g6,gq];by_cases a:(l.getD i dC).1=t
    .by_cases b:(l.getD i dC).2.2.2.2.1>=0
     .rw[aj ⟨a,b⟩,af (fun q=>q.2 b),aj a];omega
     .rw[af (fun q=>b q.2),aj ⟨a,b⟩,aj a];omega
    .rw[af (fun q=>a q.1),af (fun q=>a q.1),af a];omega
   rw[one 0,one 1,one 2];have h3:(l.getD i dC).1=0\/(l.getD i dC).1=1\/(l.getD i dC).1=2:=by omega
   rcases h3 with e | e | e
   .rw[aj e,af (by omega),af (by omega)];omega
   .rw[af (by omega),aj e,af (by omega)];omega
   .rw[af (by omega),af (by omega),aj e];omega
 have hall:∀t:Int,g6 l t l.length+gq l t l.length<=5:=by
  intro t;by_cases h:0<=t/\t<n
  .have:=hO t h.1 h.2;have:=hE t h.1 h.2;omega
  .rw[hz t h l.length (cq _)];decide
 have:=hs l.length (cq _);have:=hall 0;have:=hall 1;have:=hall 2
 omega
end
section
variable {X:Ext} (hX:f4 X) {n:Nat}
include hX
theorem alC(hn:6<=n)(o:cK)(h:dh o=true):iK ctx (DD X n) (bk.mk 121 []) [bL.val CD o] Ty.bool=some false:=by
 obtain⟨n,rfl⟩:∃k,n=k+1:=⟨n-1,by omega⟩
 have e:∀D:Den ctx,iK ctx D (bk.mk 121 []) [bL.val CD o] Ty.bool=(q54 D o).bind fun r=>some r.1.1:=fun D=>by kernel_rfl
 obtain⟨a,b,c,⟨⟩⟩:=o;rw[e,ae9 hX];simp only[qt6,q6i];rw[TL hX (by omega),h,qc];rfl
theorem acD(hn:3<=n)(g:Int×Int×Unit)(h:(0<=g.1/\g.1<20)/\0<=g.2.1/\g.2.1<=1000):iK ctx (DD X n) (bk.mk 123 []) [bL.val BH g] Ty.bool=some false:=by
 obtain⟨n,rfl⟩:∃k,n=k+1:=⟨n-1,by omega⟩
 have e:∀D:Den ctx,iK ctx D (bk.mk 123 []) [bL.val BH g] Ty.bool=(q55 D g).bind fun r=>some r.1.1:=fun D=>by kernel_rfl
 rw[e,ae_ hX];simp only[qt7,q6j];rw[MB hX (by omega),qc];dsimp only;rw[jD ⟨h.1.1,by omega⟩,cJ,aL,AK hX (by omega),qc];dsimp only;rw[jD h.2];rfl
theorem acW(hn:2<=n)(k:gv)(th:Int)(xh:0<=th/\th<=100)(h1:0<=k.1/\k.1<th)(h2:1<=k.2.1/\k.2.1<=1000000)(h3:0<=k.2.2.1/\k.2.2.1<=20)(h4:0<=k.2.2.2.1/\k.2.2.2.1<=20) :
  iK ctx (DD X n) (bk.mk 127 [bL.cm (Ty.int IntKind.i64) th]) [bL.val BG k] Ty.bool=some false:=by
 obtain⟨n,rfl⟩:∃k,n=k+1:=⟨n-1,by omega⟩
 have e:∀D:Den ctx,iK ctx D (bk.mk 127 [bL.cm (Ty.int IntKind.i64) th]) [bL.val BG k] Ty.bool=(q56 D k th).bind fun r=>some r.1.1:=fun D=>by kernel_rfl
 rw[e,afa hX];simp only[qt8,q6k];rw[qs (by omega) (by omega),k_ hX (by omega),qc];dsimp only;rw[jD ⟨h1.1,by omega⟩,cJ,aL,k_ hX (by omega),qc];dsimp only;rw[jD h2,cJ,aL,k_ hX (by omega),qc];dsimp only;rw[jD h3,cJ,aL,k_ hX (by omega),qc];dsimp only;rw[jD h4];rfl
theorem zZ{α:Type}(l:List α):(l.any fun _=>false)=false:=by simp
theorem akb{m:aS}{k:Nat}{x:cU}{t:Int}(T:js m k x t):∀g∈x.2.2.2.1,(0<=g.1/\g.1<20)/\0<=g.2.1/\g.2.1<=1000:=by
 intro g hg;have hv:=T.got g hg;cases ho:x.2.2.1 with
 | false=>rw[(T.off ho).1]at hg;simp at hg
 | true=>exact⟨(J2 (T.op ho) T.got (T.along ho)).2.1 _ (eI.2 ⟨g,hg,rfl⟩),by omega⟩
theorem HZ{m:aS}{k:Nat}{x:cU}{t:Int}(T:js m k x t):x.2.2.2.1.length<=8:=by
 cases ho:x.2.2.1 with
 | false=>rw[(T.off ho).1];simp
 | true=>exact(J2 (T.op ho) T.got (T.along ho)).2.2
theorem H9{m:aS}{k:Nat}{x:cU}{t:Int}(T:js m k x t):x.2.2.2.2.1.length<=2:=by rcases T.st with e | ⟨h,e⟩ | ⟨h,h',e,_⟩<;>rw[e]<;>simp
theorem aaR(hn:W+9<=n){m:aS}{k:Nat}{x:cU}{t:Int}(T:js m k x t)(hk:k<=3)(hs:∀u:Int,0<=u->u<k->(aq m u).1<=1000000):qxn (DD X n) x (k:Int)=some ((true,()),()):=by
 obtain⟨n,rfl⟩:∃k,n=k+1:=⟨n-1,by omega⟩
 have hW:=ej;have h1:=T.ops;have h2:=T.pc;have h3:=HZ hX T;have h4:=H9 hX T;rw[agE hX];simp only[qxx,On];have aZ:qd (UR (DD X n) x.2.2.2.1 (bk.mk 123 [])) (fun b=>br b.1.1 (some ((false,()),())) (qd (UQ (DD X n) x.2.2.2.2.1 (bk.mk 127 [bL.cm (Ty.int IntKind.i64) (k:Int)])) fun b=>some ((!b.1.1,()),())))=some ((true,()),()):=by
  rw[ah9 hX (by omega) (show List.length x.2.2.2.1<=1000000 by omega) (f:=fun _=>false) (fun g hg=>acD hX (by omega) g (akb hX T g hg)),qc];dsimp only;rw[zZ hX,aL,ah8 hX (by omega) (by omega) (f:=fun _=>false) (fun q hq=>by
   have H:=T.dZ q hq;have:=hs q.1 H.t.1 H.t.2;have:=H.seq;have:=H.rU;have:=H.fin;exact acW hX (by omega) q k (by omega) H.t (by omega) (by omega) (by omega)),qc]
  dsimp only;rw[zZ hX];rfl
 rw[qg (by omega),ajR hX (by omega) (by omega) (f:=fun _=>false) (fun o ho=>alC hX (by omega) o (h1.2 o ho)),qc];dsimp only;rw[zZ hX,aL,k_ hX (by omega),qc];dsimp only;rw[jD h2,cJ,bf];cases ho:x.2.2.1 with
 | true=>have:=T.on ho;rw[bA,b7 (by omega),bf,b7 (by omega),bf,b7 (by omega),aL,cJ,aL];exact aZ
 | false=>have:=T.off ho;rw[bf,bf,b7 (by omega),bf,b7 (by omega),aL,jm,aF,qg (by rw[this.1,this.2];decide)];exact aZ
theorem MN(D:Den ctx)(n:Nat)(K:Int->Int->Int->aG->cU->Option ((Bool×Unit)×Unit))(t:Int)(l:List gf)(hl:l.length<=1000)(m:aG)(x:cU):∀(c i:Nat),i<=l.length->l.length-i<c->
  S_ D n K c t (zD l t i) (g6 l t i) (gq l t i) l (l.length:Int) (i:Int) m x=K (zD l t l.length) (g6 l t l.length) (gq l t l.length) m x
 | 0,i,_,h2=>by omega
 | c+1,i,h1,h2=>by
  have hr:=xH l t i;simp only[S_,qyw];by_cases hi:i<l.length
  .have ih:=MN D n K t l hl m x c (i+1) (by omega) (by omega);simp only[zD,g6,gq]at ih;rw[qf (by omega),ix hi,aF,eB,qu (by omega)];have hd:l.getD i (0,(0,0,0,()),0,0,0,(0,[],()),())=l.getD i dC:=rfl;rw[hd];by_cases a:(l.getD i dC).1=t
   .rw[show((l.getD i dC).1 != t)=false by rw[bH,bz a];rfl,aL];rw[aj a]at ih;by_cases b:(l.getD i dC).2.2.2.2.1>=0
    .rw[qf b,qs (by omega) (by omega)];rw[aj ⟨a,b⟩,af (fun q=>q.2 b),yp]at ih;exact ih
    .rw[qg b,qs (by omega) (by omega)];rw[af (fun q=>b q.2),aj ⟨a,b⟩,yp]at ih;exact ih
   .rw[show((l.getD i dC).1 != t)=true by rw[bH,b7 a];rfl,aF];rw[af a,af (fun q=>a q.1),af (fun q=>a q.1),yp,yp]at ih;exact ih
  .rw[qg (by omega),show i=l.length by omega]
theorem We(o:cK):pK (Ty.pair (Ty.int IntKind.i64) (Ty.pair (Ty.int IntKind.i64) (Ty.pair (Ty.int IntKind.i64) Ty.unit))) o o=true:=by obtain⟨a,b,c,⟨⟩⟩:=o;simp[pK]
theorem abH(hn:W+1<=n){m:aG}(I:Inv m){t:Int}(t0:0<=t)(t1:t<m.2.1.length)(hl:m.2.2.2.1.length<=1000):Yh (DD X n) m t=some ((true,()),()):=by
 obtain⟨n,rfl⟩:∃k,n=k+1:=⟨n-1,by omega⟩
 have hW:=ej;have T:=I.th t t0 t1;rw[ahW hX];simp only[YD,Y_,qwf];have hL:=MN hX (DD X n) n (fun bY eG jy ko I1=>qur (DD X n) n bY eG jy ko I1) t m.2.2.2.1 hl m (ai m t) n 0 (eZ _) (by omega);have hx:m.2.1.getD t.toNat ([],0,false,[],[],())=ai m t:=rfl;rw[fI t0 t1,aF,hx];refine dj hL ?_;have hE:g6 m.2.2.2.1 t m.2.2.2.1.length=(ai m t).2.1:=by rw[GU _ _ _ (cq _),B_];exact I.call.cnt t t0 t1
 simp only[qur];rw[hE,bH,bz rfl,cJ,aL];cases ho:(ai m t).2.2.1 with
 | false=>rw[jm,aF,G5 I.call (I.call.off t t0 t1 ho) _ (cq _)];rfl
 | true=>obtain⟨k,hk,hop⟩:=I.call.jN t t0 t1 ho;have hr:=hk.dQ;obtain⟨e1,e2⟩:=G0 I.call hk _ (cq _) (by omega);have hp:=T.on ho;have K_:=T.pc.1;have hd:m.2.2.2.1.getD k.toNat (0,(0,0,0,()),0,0,0,(0,[],()),())=ay m.2.2.2.1 k:=rfl;have nX:(ai m t).1.getD (ai m t).2.1.toNat (0,0,0,())=aV (ai m t):=rfl;rw[cJ,aL,e1,e2,bz (show k>=0 from hr.1),bA,qf rfl,zE,bz hr.2,aF,hd,qf hk.fin,aF,fI K_ hp,aF,hop,nX,We hX]
theorem R7(D:Den ctx)(n:Nat)(K:Int->aG->Option ((Bool×Unit)×Unit))(l:List gf)(hl:l.length<=1000)(m:aG):∀(c i:Nat),i<=l.length->l.length-i<c->
  Tb D n K c (m3 l i) l (l.length:Int) (i:Int) m=K (m3 l l.length) m
 | 0,i,_,h2=>by omega
 | c+1,i,h1,h2=>by
  have hr:=xH l 0 i;simp only[Tb,qy1];by_cases hi:i<l.length
  .have ih:=R7 D n K l hl m c (i+1) (by omega) (by omega);simp only[m3]at ih;rw[qf (by omega),ix hi,aF,eB,qu (by omega)];have hd:l.getD i (0,(0,0,0,()),0,0,0,(0,[],()),())=l.getD i dC:=rfl;rw[hd];by_cases a:(l.getD i dC).2.2.2.1>=0
   .rw[qf a,qs (by omega) (by omega)];rw[aj a]at ih;exact ih
   .rw[qg a];rw[af a,yp]at ih;exact ih
  .rw[qg (by omega),show i=l.length by omega]
theorem R8(N n:Nat)(hN:W+2<=N)(K0:Bool->Int->aG->Option ((Bool×Unit)×Unit))(K1:Int->aG->Option ((Bool×Unit)×Unit))(z:Int){m:aG}(I:Inv m)(hl:m.2.2.2.1.length<=1000)(Am:m.2.2.2.2.1.length<=1000):∀(c i:Nat),i<=m.2.2.2.2.1.length->m.2.2.2.2.1.length-i<c->
  Tc (DD X N) n K0 K1 c z m.2.2.2.2.1 (m.2.2.2.2.1.length:Int) (i:Int) m=K1 z m
 | 0,i,_,h2=>by omega
 | c+1,i,h1,h2=>by
  simp only[Tc,qy2];by_cases hi:i<m.2.2.2.2.1.length
  .have ih:=R8 N n hN K0 K1 z I hl Am c (i+1) (by omega) (by omega);have hk:=I.call.gI _ (ez hi);rw[qf (by omega),ix hi,aF,eB,qv hi,qu (by omega),qs (by omega) (by omega),k_ hX (by omega),qc];dsimp only;have hd:∀k:Int,m.2.2.2.1.getD k.toNat (0,(0,0,0,()),0,0,0,(0,[],()),())=ay m.2.2.2.1 k:=fun _=>rfl;have hni:m.2.2.2.2.1[i]∉List.drop (0:Int).toNat (List.take i m.2.2.2.2.1):=by rw[show(0:Int).toNat=0 from rfl,jU];intro q;obtain⟨j,hj,e⟩:=nH.1 q;rw[eP]at hj;rw[List.getElem_take]at e;have:=x9.1 I.call.nodup j i (by omega) hi (by omega);exact this e
   rw[jD ⟨hk.1,by omega⟩,cJ,aL,fI hk.1 hk.2.1,aF,hd,qg (by omega),
    show(decide ((0:Nat)<=0)&&decide (0<=(i:Int))&&decide ((i:Int)<=(m.2.2.2.2.1.length:Int)))=true by simp;omega,aF,Qa hX (by omega) _ (by simp;omega) _ hni,qc]
   dsimp only;rw[aL];by_cases h0:i=0
   .rw[qg (by omega)];exact ih
   .have e:wrap .i64 ((i:Int)-1)=((i-1:Nat):Int):=by rw[qs (by omega) (by omega)];omega
    have hlt:i-1<m.2.2.2.2.1.length:=by omega
    have hk2:=I.call.gI _ (ez hlt);have hs:=x9.1 I.call.sort (i-1) i hlt hi (by omega);rw[qf (by omega),e,ix hlt,aF,eB,qv hlt,fI hk2.1 hk2.2.1,aF,aF,hd,qg (by omega)];exact ih
  .rw[qg (by omega)]
theorem abv(hn:W+3<=n){m:aG}(I:Inv m)(hl:m.2.2.2.1.length<=1000):Yi (DD X n) m=some ((true,()),()):=by
 obtain⟨n,rfl⟩:∃k,n=k+1:=⟨n-1,by omega⟩
 have hW:=ej;have ho:=RY I.call;have hr:=xH m.2.2.2.1 0 m.2.2.2.1.length;have Am:m.2.2.2.2.1.length<=1000:=by omega
 rw[ahs hX];simp only[YJ,Zb,qwh];refine dj (R7 hX (DD X n) n _ m.2.2.2.1 hl m n 0 (eZ _) (by omega)) ?_;simp only[qut,qwi];refine dj (R8 hX n n (by omega) _ _ _ I hl Am n 0 (eZ _) (by omega)) ?_;simp only[q6r];rw[ho,bz rfl]
theorem M7(N n:Nat)(hN:6<=N)(K0:Bool->Int->aG->Option ((Bool×Unit)×Unit))(K1:Int->aG->Option ((Bool×Unit)×Unit)){m:aG}(I:Inv m)(hl:m.2.2.2.1.length<=1000):∀(c i:Nat),i<=m.2.2.2.1.length->m.2.2.2.1.length-i<c->
  SQ (DD X N) n K0 K1 c (m.2.1.length:Int) m.2.2.2.1 (m.2.2.2.1.length:Int) (i:Int) m=K1 (m.2.1.length:Int) m
 | 0,i,_,h2=>by omega
 | c+1,i,h1,h2=>by
  simp only[SQ,qul];by_cases hi:i<m.2.2.2.1.length
  .have ih:=M7 N n hN K0 K1 I hl c (i+1) (by omega) (by omega);have hn:=I.n;have C:=I.call.c (i:Int) (by omega) (by omega);have hd:m.2.2.2.1.getD i (0,(0,0,0,()),0,0,0,(0,[],()),())=ay m.2.2.2.1 (i:Int):=by unfold ay;rw[eB];rfl
   obtain⟨N,rfl⟩:∃k,N=k+1:=⟨N-1,by omega⟩
   have hst:=C.start;rw[qf (by omega),ix hi,aF,eB,hd,qu (by omega),qs (by omega) (by omega),k_ hX (by omega),qc];dsimp only;have hop:Dk (DD X (N+1)) (ay m.2.2.2.1 (i:Int)).2.1=some ((true,()),()):=by have:=TL hX (n:=N+1) (by omega) (ay m.2.2.2.1 (i:Int)).2.1.1 (ay m.2.2.2.1 (i:Int)).2.1.2.1 (ay m.2.2.2.1 (i:Int)).2.1.2.2.1;rw[show((ay m.2.2.2.1 (i:Int)).2.1.1,(ay m.2.2.2.1 (i:Int)).2.1.2.1,(ay m.2.2.2.1 (i:Int)).2.1.2.2.1,())=(ay m.2.2.2.1 (i:Int)).2.1 from rfl,C.op]at this;exact this
   have hwh:∀x:Int,(x = -1\/(ay m.2.2.2.1 (i:Int)).2.2.1<=x/\x<=m.2.2.1)->Vd (DD X (N+1)) (ay m.2.2.2.1 (i:Int)) x m=some ((true,()),()):=by
    intro x hx;rw[aeq hX];simp only[qru,q32];by_cases a:x = -1
    .rw[qf a]
    .rw[qg a,k_ hX (by omega),qc];dsimp only;rw[jD (hx.resolve_left a)]
   have Ah:=C.qE;have kM:=C.fin;rw[jD ⟨C.t.1,by have:=C.t.2;omega⟩,cJ,aL,hop,qc];dsimp only;rw[cJ,aL,k_ hX (by omega),qc];dsimp only;rw[jD hst,cJ,aL,hwh _ Ah,qc];dsimp only;rw[cJ,aL,hwh _ (by omega),qc];dsimp only;rw[cJ,aL];exact ih
  .rw[qg (by omega)]
theorem M8(N n:Nat)(hN:W+9<=N)(K0:Bool->aG->Option ((Bool×Unit)×Unit))(K1:aG->Option ((Bool×Unit)×Unit)){m:aG}(I:Inv m)(hl:m.2.2.2.1.length<=1000)(ht:m.2.2.1<=100000):∀(c i:Nat),i<=m.2.1.length->m.2.1.length-i<c->
  SY (DD X N) n K0 K1 c (m.2.1.length:Int) m.2.1 (m.2.1.length:Int) (i:Int) m=K1 m
 | 0,i,_,h2=>by omega
 | c+1,i,h1,h2=>by
  simp only[SY,qum];by_cases hi:i<m.2.1.length
  .have ih:=M8 N n hN K0 K1 I hl ht c (i+1) (by omega) (by omega);have hn:=I.n;have T:=I.th (i:Int) (by omega) (by omega);have hd:m.2.1.getD i ([],0,false,[],[],())=ai m (i:Int):=by unfold ai;rw[eB];rfl
   rw[qf (by omega),ix hi,aF,eB,hd,qu (by omega),aaR hX (by omega) T (by omega) (fun u u0 u1=>by have:=(I.mem.dy u u0 u1).seq.2;omega),qc];dsimp only;rw[cJ,aL,abH hX (by omega) I (by omega) (by omega) hl,qc];dsimp only;rw[cJ,aL];exact ih
  .rw[qg (by omega)]
theorem IM{m:aG}(I:Inv m):m.2.2.2.1.length<=15:=
 abR I.call I.n.2 fun t t0 t1=>by have:=(I.th t t0 t1).pc;have:=(I.th t t0 t1).ops.1;omega
theorem ID(hn:W+10<=n){m:aG}(I:Inv m)(ht:m.2.2.1<=100000):zI (DD X n) m=some ((true,()),()):=by
 obtain⟨n,rfl⟩:∃k,n=k+1:=⟨n-1,by omega⟩
 have hW:=ej;have hl:=IM hX I;have hn:=I.n;have me:=I.mem.dw;have h0:=I.time;rw[afW hX];simp only[qvx,qwb,qsd];rw[xG hX (by omega) I.mem (by omega) (by omega) (by omega),qc];dsimp only;rw[cJ,bf,show((m.1.2.1.length:Int) != (m.2.1.length:Int))=false by rw[bH,bz (by omega)];rfl,aL,k_ hX (by omega),qc];dsimp only;rw[jD ⟨h0,ht⟩,cJ,bf,qg (by omega),q8n hX (by omega) I.first,qc];dsimp only;rw[cJ,aL];refine dj (M7 hX n n (by omega) _ _ I (by omega) n 0 (eZ _) (by omega)) ?_;simp only[qqs,qse];refine dj (M8 hX n n (by omega) _ _ I (by omega) ht n 0 (eZ _) (by omega)) ?_;simp only[q0a];rw[abv hX (by omega) I (by omega),qc]
end
section
variable {X:Ext} (hX:f4 X) {n:Nat}
include hX
theorem Of(hn:1<=n)(l:List Int)(hl:l.length<=1000000):SH (DD X n) l=some ((l,()),()):=by
 obtain⟨n,rfl⟩:∃k,n=k+1:=⟨n-1,by omega⟩
 have hb:=i5;rw[qvc hX];simp only[U_,qmy];cases l with
 | nil=>simp[uu,both,i5]
 | cons a l=>rw[qg (by rw[eB];simp),qf (by simp only[ct]at hl⊢;omega)];rfl
theorem qts(hn:1<=n)(l:List cK)(hl:l.length<=1000000):U2 (DD X n) l=some ((l,()),()):=by
 obtain⟨n,rfl⟩:∃k,n=k+1:=⟨n-1,by omega⟩
 have hb:=i5;rw[qx3 hX];simp only[qh2,qmm];cases l with
 | nil=>simp[uu,both,i5]
 | cons a l=>rw[qg (by rw[eB];simp),qf (by simp only[ct]at hl⊢;omega)];rfl
theorem q3t(hn:1<=n)(l:dL)(hl:l.length<=1000000):qgh (DD X n) l=some ((l,()),()):=by
 obtain⟨n,rfl⟩:∃k,n=k+1:=⟨n-1,by omega⟩
 have hb:=i5;rw[qud hX];simp only[qgk,qkc];cases l with
 | nil=>simp[uu,both,i5]
 | cons a l=>rw[qg (by rw[eB];simp),qf (by simp only[ct]at hl⊢;omega)];rfl
theorem q3s(hn:1<=n)(l:List gv)(hl:l.length<=1000000):qgg (DD X n) l=some ((l,()),()):=by
 obtain⟨n,rfl⟩:∃k,n=k+1:=⟨n-1,by omega⟩
 have hb:=i5;rw[quc hX];simp only[qgj,qkb];cases l with
 | nil=>simp[uu,both,i5]
 | cons a l=>rw[qg (by rw[eB];simp),qf (by simp only[ct]at hl⊢;omega)];rfl
theorem q3u(hn:1<=n)(l:List lX)(hl:l.length<=1000000):qgi (DD X n) l=some ((l,()),()):=by
 obtain⟨n,rfl⟩:∃k,n=k+1:=⟨n-1,by omega⟩
 have hb:=i5;rw[que hX];simp only[qgl,qkd];cases l with
 | nil=>simp[uu,both,i5]
 | cons a l=>rw[qg (by rw[eB];simp),qf (by simp only[ct]at hl⊢;omega)];rfl
theorem qm4(hn:1<=n)(l:List eu)(hl:l.length<=1000000):UY (DD X n) l=some ((l,()),()):=by
 obtain⟨n,rfl⟩:∃k,n=k+1:=⟨n-1,by omega⟩
 have hb:=i5;rw[qrz hX];simp only[qfw,qjv];cases l with
 | nil=>simp[uu,both,i5]
 | cons a l=>rw[qg (by rw[eB];simp),qf (by simp only[ct]at hl⊢;omega)];rfl
theorem LP(hn:2<=n)(r:fC)(hl:r.2.1.length<=1000000):Iz (DD X n) r=some ((r,()),()):=by
 obtain⟨n,rfl⟩:∃k,n=k+1:=⟨n-1,by omega⟩
 rw[ahZ hX];simp only[YG,OV];rw[Of hX (by omega) _ hl,qc]
theorem Q4(N n:Nat)(hN:2<=N)(K:aS->aS->Option ((aS×Unit)×Unit))(l:List nt)(hl:l.length<=1000)(h1:∀d∈l,d.2.2.1.length<=1000/\d.2.2.2.1.2.1.length<=1000)(z:aS)(w:List lX):∀(c i:Nat),i<=l.length->l.length-i<c->
  Ta (DD X N) n K c l (l.length:Int) (i:Int) z (w,l.take i,())=K z (w,l,())
 | 0,i,_,h2=>by omega
 | c+1,i,h0,h2=>by
  have hb:=i5;simp only[Ta,qyy];by_cases hi:i<l.length
  .have ih:=Q4 N n hN K l hl h1 z w c (i+1) (by omega) (by omega);have hd:=h1 _ (ez hi);rw[qf (by omega),ix hi,aF,eB,qv hi,qu (by omega),qm4 hX (by omega) _ (by omega),qc,LP hX (by omega) _ (by omega),qc];dsimp only;rw[qf (by rw[eP];omega)];rw[mO hi]at ih;exact ih
  .rw[qg (by omega),show l.take i=l from jR (by omega)]
theorem GS(hn:W+3<=n)(m:aS)(hw:m.1.length<=1000)(hl:m.2.1.length<=1000)(h1:∀d∈m.2.1,d.2.2.1.length<=1000/\d.2.2.2.1.2.1.length<=1000):JT (DD X n) m=some ((m,()),()):=by
 obtain⟨n,rfl⟩:∃k,n=k+1:=⟨n-1,by omega⟩
 have hW:=ej;rw[ahY hX];simp only[YF,Za,qwg];rw[q3u hX (by omega) _ (by omega),qc];dsimp only;refine dj (Q4 hX n n (by omega) _ m.2.1 hl h1 ([],[],()) m.1 n 0 (eZ _) (by omega)) ?_;rfl
theorem VO(hn:2<=n)(x:cU)(h1:x.1.length<=1000)(h2:List.length x.2.2.2.1<=1000)(h3:x.2.2.2.2.1.length<=1000):JO (DD X n) x=some ((x,()),()):=by
 obtain⟨n,rfl⟩:∃k,n=k+1:=⟨n-1,by omega⟩
 rw[afc hX];simp only[qt9,q6o];rw[qts hX (by omega) _ (by omega),qc,q3t hX (by omega) _ (by omega),qc,q3s hX (by omega) _ (by omega),qc]
theorem RD(N n:Nat)(hN:2<=N)(K:aG->aG->aG->Option ((aG×Unit)×Unit))(l:List cU)(hl:l.length<=1000)(h1:∀x∈l,x.1.length<=1000/\List.length x.2.2.2.1<=1000/\x.2.2.2.2.1.length<=1000)(z1 z2:aG)(a:aS)(b:Int×List gf×List Int×qp×Unit):∀(c i:Nat),i<=l.length->l.length-i<c->
  SM (DD X N) n K c l (l.length:Int) (i:Int) z1 z2 (a,l.take i,b)=K z1 z2 (a,l,b)
 | 0,i,_,h2=>by omega
 | c+1,i,h0,h2=>by
  have hb:=i5;simp only[SM,qqw];by_cases hi:i<l.length
  .have ih:=RD N n hN K l hl h1 z1 z2 a b c (i+1) (by omega) (by omega);have hd:=h1 _ (ez hi);rw[qf (by omega),ix hi,aF,eB,qv hi,qu (by omega),VO hX (by omega) _ hd.1 hd.2.1 hd.2.2,qc];dsimp only;rw[qf (by rw[eP];omega)];rw[mO hi]at ih;exact ih
  .rw[qg (by omega),show l.take i=l from jR (by omega)]
theorem RC(N n:Nat)(hN:2<=N)(K:aG->aG->Option ((aG×Unit)×Unit))(l:List gf)(hl:l.length<=1000)(h1:∀x∈l,x.2.2.2.2.2.1.2.1.length<=1000)(z1:aG)(a:aS)(th:List cU)(ti:Int)(b:List Int×qp×Unit):∀(c i:Nat),i<=l.length->l.length-i<c->
  SN (DD X N) n K c l (l.length:Int) (i:Int) z1 (a,th,ti,l.take i,b)=K z1 (a,th,ti,l,b)
 | 0,i,_,h2=>by omega
 | c+1,i,h0,h2=>by
  have hb:=i5;simp only[SN,qqx];by_cases hi:i<l.length
  .have ih:=RC N n hN K l hl h1 z1 a th ti b c (i+1) (by omega) (by omega);have hd:=h1 _ (ez hi);rw[qf (by omega),ix hi,aF,eB,qv hi,qu (by omega),LP hX (by omega) _ (by omega),qc];dsimp only;rw[qf (by rw[eP];omega)];rw[mO hi]at ih;exact ih
  .rw[qg (by omega),show l.take i=l from jR (by omega)]
structure CI (m:aG):Prop where
 w:m.1.1.length<=1000
 d:m.1.2.1.length<=1000
 de:∀d∈m.1.2.1,d.2.2.1.length<=1000/\d.2.2.2.1.2.1.length<=1000
 t:m.2.1.length<=1000
 te:∀x∈m.2.1,x.1.length<=1000/\List.length x.2.2.2.1<=1000/\x.2.2.2.2.1.length<=1000
 c:m.2.2.2.1.length<=1000
 ce:∀x∈m.2.2.2.1,x.2.2.2.2.2.1.2.1.length<=1000
 o:m.2.2.2.2.1.length<=1000
 f:aW m.2.2.2.2.2.1
theorem VK(hn:W+4<=n){m:aG}(h:CI m):JN (DD X n) m=some ((m,()),()):=by
 obtain⟨n,rfl⟩:∃k,n=k+1:=⟨n-1,by omega⟩
 have hW:=ej;have ht:=h.t;have hc:=h.c
 rw[aes hX];simp only[qrw,qsi,qoy];rw[GS hX (by omega) _ h.w h.d h.de,qc,Of hX (by omega) _ (by have:=h.o;omega),qc,UK hX (by omega) h.f,qc];dsimp only;refine dj (RD hX n n (by omega) _ m.2.1 h.t h.te m (([],[],()),[],0,[],[],([],0,()),()) (m.1.1,m.1.2.1,()) (m.2.2.1,[],m.2.2.2.2.1,(m.2.2.2.2.2.1.1,m.2.2.2.2.2.1.2),()) n 0 (eZ _) (by omega)) ?_;simp only[qnt,qoz];refine dj (RC hX n n (by omega) _ m.2.2.2.1 h.c h.ce (([],[],()),[],0,[],[],([],0,()),()) (m.1.1,m.1.2.1,()) m.2.1 m.2.2.1 (m.2.2.2.2.1,(m.2.2.2.2.2.1.1,m.2.2.2.2.2.1.2),()) n 0 (eZ _) (by omega)) ?_;rfl
theorem IN{m:aG}(I:Inv m):CI m where
 w:=by rw[I.mem.len];omega
 d:=by rw[I.mem.dw];have:=I.n;omega
 de:=fun d hd=>by
  obtain⟨j,hj,rfl⟩:=nH.1 hd;have me:=I.mem.dw;have e:m.1.2.1[j]=aq m.1 (j:Int):=by unfold aq;rw[eB,qv hj]
  have D:=I.mem.dy (j:Int) (by omega) (by omega);have h1:=D.len;refine⟨by rw[e];omega,?_⟩;rw[e];have:=D.rl;omega
 t:=by have:=I.n;omega
 te:=fun x hx=>by
  obtain⟨j,hj,rfl⟩:=nH.1 hx;have e:m.2.1[j]=ai m (j:Int):=by unfold ai;rw[eB,qv hj]
  have T:=I.th (j:Int) (by omega) (by omega);rw[e];have:=T.ops.1;have:=HZ hX T;have:=H9 hX T
  exact⟨by omega,by omega,by omega⟩
 c:=by have:=IM hX I;omega
 ce:=fun x hx=>by
  obtain⟨j,hj,rfl⟩:=nH.1 hx;have e:m.2.2.2.1[j]=ay m.2.2.2.1 (j:Int):=by rw[tA,qv hj]
  rw[e];have:=(I.call.c (j:Int) (by omega) (by omega)).len;omega
 o:=by have h1:=RY I.call;have h2:=xH m.2.2.2.1 0 m.2.2.2.1.length;have:=IM hX I;omega
 f:=I.first
end
theorem eqW(a b:Int×Int×Int×Unit):pK (Ty.pair (Ty.int IntKind.i64) (Ty.pair (Ty.int IntKind.i64) (Ty.pair (Ty.int IntKind.i64) Ty.unit))) a b=decide (a=b):=by obtain⟨a1,a2,a3,⟨⟩⟩:=a;obtain⟨b1,b2,b3,⟨⟩⟩:=b;by_cases h1:a1=b1<;>by_cases h2:a2=b2<;>by_cases h3:a3=b3<;>simp[pK,h1,h2,h3]
theorem J8{α:Type}{l:List α}{i:Nat}(h:i<l.length)(x d:α):(l.set i x).getD i d=x:=by rw[LM,aj ⟨rfl,h⟩]
def Bw(x:cU):Prop:=x.1.length<=1000/\List.length x.2.2.2.1<=1000/\x.2.2.2.2.1.length<=1000
section
variable {X:Ext} (hX:f4 X) {n:Nat}
include hX
theorem alF(hn:1<=n)(x:cU)(hs:x.2.2.2.2.1≠[])(hl:x.2.2.2.2.1.length<=1000):GA (DD X n) x=some ((au x,true,()),()):=by
 obtain⟨n,rfl⟩:∃k,n=k+1:=⟨n-1,by omega⟩
 have h0:0<x.2.2.2.2.1.length:=pz.2 hs;rw[aa3 hX];simp only[GD,Qs];rw[qg (by omega),qs (by omega) (by omega),fI (by omega) (by omega),aF,show((x.2.2.2.2.1.length:Int)-1).toNat=x.2.2.2.2.1.length-1 by omega];rfl
theorem Ij(hn:3<=n)(x:cU)(hx:Bw x)(h:gv):JY (DD X n) x h=some ((qW x h,()),()):=by
 obtain⟨n,rfl⟩:∃k,n=k+1:=⟨n-1,by omega⟩
 have hb:=i5;rw[aas hX];simp only[Gt,PY];rw[VO hX (by omega) x hx.1 hx.2.1 hx.2.2,qc];dsimp only;rw[qf (by have:=hx.2.2;omega)];rfl
theorem Ik(hn:3<=n)(x:cU)(hx:Bw x)(hs:x.2.2.2.2.1≠[])(h:gv):TH (DD X n) x h=some ((j_ x h,()),()):=by
 obtain⟨n,rfl⟩:∃k,n=k+1:=⟨n-1,by omega⟩
 have h0:0<x.2.2.2.2.1.length:=pz.2 hs;have h1:=hx.2.2;rw[aau hX];simp only[Gv,PZ];rw[VO hX (by omega) x hx.1 hx.2.1 hx.2.2,qc];dsimp only;rw[qf (by omega),qs (by omega) (by omega),fI (by omega) (by omega),aF,show((x.2.2.2.2.1.length:Int)-1).toNat=x.2.2.2.2.1.length-1 by omega];rfl
theorem alE(hn:3<=n)(x:cU)(hx:Bw x)(hs:x.2.2.2.2.1≠[]):Gz (DD X n) x=some ((ja x,()),()):=by
 obtain⟨n,rfl⟩:∃k,n=k+1:=⟨n-1,by omega⟩
 have h0:0<x.2.2.2.2.1.length:=pz.2 hs;have h1:=hx.2.2;rw[aa2 hX];simp only[GC,Qr];rw[VO hX (by omega) x hx.1 hx.2.1 hx.2.2,qc];dsimp only;rw[qf (by omega),qs (by omega) (by omega),show(decide (0<=(x.2.2.2.2.1.length:Int)-1)&&decide ((x.2.2.2.2.1.length:Int)-1<=(x.2.2.2.2.1.length:Int)))=true by simp;omega,aF,show((x.2.2.2.2.1.length:Int)-1).toNat=x.2.2.2.2.1.length-1 by omega];rfl
theorem alb(hn:1<=n){m:aS}{k:Nat}{time:Int}{own:Int->Prop}(I:eX m k time own){h:gv}(H:bV m k h)(hk:k<=3)(hd:(aq m h.1).1=h.2.1)(hs:(aq m h.1).2.1=1) :
  UJ (DD X n) m h=some (((q7 m h).2.1,(q7 m h).2.2.1,(q7 m h).2.2.2.1,()),((q7 m h).1,())):=by
 obtain⟨n,rfl⟩:∃k,n=k+1:=⟨n-1,by omega⟩
 have hlen:=I.len;have me:=I.dw;have u0:=H.t.1;have u1:=H.t.2;have d8:=H.rU;rw[aa4 hX];simp only[GF,Qt];have lE:List.getD m.2.1 (Int.toNat h.1) (0,0,[],(0,[],()),())=aq m h.1:=rfl;rw[fI u0 (by omega),aF,lE];unfold q7;rw[af (by omega),aj hs];by_cases ha:((aq m h.1).2.2.1.length:Int)<=h.2.2.1
 .rw[qf ha,aj ha];rfl
 .have iR:=I.gU u0 u1 d8.1 (show h.2.2.1<_ by omega);have he:List.getD (aq m h.1).2.2.1 (Int.toNat h.2.2.1) (0,0,0,())=qi (aq m h.1).2.2.1 h.2.2.1:=rfl;rw[qg ha,af ha,fI d8.1 (by omega),aF,he,fI iR.1.1 (by omega),aF,qs (by omega) (by omega)];have hw:List.getD m.1 (Int.toNat (qi (aq m h.1).2.2.1 h.2.2.1).1) (0,0,0,())=wd m (qi (aq m h.1).2.2.1 h.2.2.1).1:=rfl;rw[hw,eqW,show((0:Int),h.1+1,h.2.1,())=dM h.1 h.2.1 from rfl];by_cases hm:wd m (qi (aq m h.1).2.2.1 h.2.2.1).1=dM h.1 h.2.1
  .rw[qf hm,aj hm,qs (by omega) (by omega)];rfl
  .rw[qg hm,af hm];by_cases ht:(wd m (qi (aq m h.1).2.2.1 h.2.2.1).1).2.1≠0
   .have xo:(wd m (qi (aq m h.1).2.2.1 h.2.2.1).1).2.1<=100/\0<=(wd m (qi (aq m h.1).2.2.1 h.2.2.1).1).2.1:=by
     rcases I.word _ iR.1.1 iR.1.2 with q | ⟨v,v0,v1,vo,vm,_⟩
     .exact absurd q.1 ht
     .rw[vm];simp only[dM];omega
    rw[show((wd m (qi (aq m h.1).2.2.1 h.2.2.1).1).2.1 != 0)=true by rw[bH,b7 ht];rfl,aF,aj ht,qs (by omega) (by omega)]
   .have C3:(wd m (qi (aq m h.1).2.2.1 h.2.2.1).1).2.1=0:=by omega
    rw[show((wd m (qi (aq m h.1).2.2.1 h.2.2.1).1).2.1 != 0)=false by rw[bH,bz C3];rfl,aL,af ht];by_cases ho:(wd m (qi (aq m h.1).2.2.1 h.2.2.1).1).1=(qi (aq m h.1).2.2.1 h.2.2.1).2.1
    .rw[qf ho,aj ho,qs (by omega) (by omega)];rfl
    .rw[qg ho,af ho];rfl
theorem Qg{m:aS}{k:Nat}{time:Int}{own:Int->Prop}(I:eX m k time own)(hk:k<=3):m.1.length<=1000/\m.2.1.length<=1000/\∀d∈m.2.1,d.2.2.1.length<=1000/\d.2.2.2.1.2.1.length<=1000:=by
 refine⟨by rw[I.len];omega,by rw[I.dw];omega,fun d hd=>?_⟩;obtain⟨j,hj,rfl⟩:=nH.1 hd;have me:=I.dw;have e:m.2.1[j]=aq m (j:Int):=by unfold aq;rw[eB,qv hj]
 have D:=I.dy (j:Int) (by omega) (by omega);have h1:=D.len;have h2:=D.rl;rw[e];exact⟨by omega,by omega⟩
theorem abG(hn:W+8<=n){m:aS}{k:Nat}{time:Int}{own:Int->Prop}(I:eX m k time own){h:gv}(H:bV m k h)(h1:1<=k)(hk:k<=3)(ht:time<=1000000) :
  Zu (DD X n) m h=some (q7 m h,()):=by
 obtain⟨n,rfl⟩:∃k,n=k+1:=⟨n-1,by omega⟩
 have hlen:=I.len;have me:=I.dw;have u0:=H.t.1;have u1:=H.t.2;have d8:=H.rU;have hfi:=H.fin;have Ut:=H.seq;have hst:=(I.dy h.1 u0 u1).st.2 (by omega);obtain⟨s1,s2,s3⟩:=Qg hX I hk;rw[aiP hX];simp only[ZF,O6];rw[GS hX (by omega) m s1 s2 s3,qc];dsimp only;rw[show((m.1,m.2.1,()):aS)=m from rfl,xG hX (by omega) I ht h1 (by omega),qc];dsimp only;rw[cJ,aL,qs (by omega) (by omega),k_ hX (by omega),qc];dsimp only;have lE:List.getD m.2.1 (Int.toNat h.1) (0,0,[],(0,[],()),())=aq m h.1:=rfl;rw[jD ⟨u0,by omega⟩,cJ,bf,qg (by omega),fI u0 (by omega),aF,lE];by_cases hd:(aq m h.1).1=h.2.1
 .rw[show((aq m h.1).1 != h.2.1)=false by rw[bH,bz hd];rfl,aL,aF,af (by omega),af (by omega)];rw[show((aq m h.1).2.1 != 0)=true by rw[bH,b7 (by omega)];rfl,bA];have hhh:(h.1,h.2.1,h.2.2.1,h.2.2.2.1,())=h:=rfl;by_cases hs:(aq m h.1).2.1=1
  .rw[bz hs,bA,aF,aF,show((h.1,h.2.1,h.2.2.1,h.2.2.2.1,h.2.2.2.2):gv)=h from rfl,alb hX (by omega) I H hk hd hs,qc]
  .rw[b7 hs,bf,aL,akh];have ea:q7 m h=(if ((aq m h.1).2.2.1.length:Int)<=h.2.2.2.1 then (m,h,dH,2,())
    else (if wd m (qi (aq m h.1).2.2.1 h.2.2.2.1).1=dM h.1 h.2.1 then
     ep m (qi (aq m h.1).2.2.1 h.2.2.2.1).1 (if (aq m h.1).2.1=2 then (qi (aq m h.1).2.2.1 h.2.2.2.1).2.2.1 else (qi (aq m h.1).2.2.1 h.2.2.2.1).2.1,0,0,()) else m,(h.1,h.2.1,h.2.2.1,h.2.2.2.1+1,()),dH,0,())):=by
    unfold q7;rw[af (by omega),af hs]
   rw[ea];by_cases hf:((aq m h.1).2.2.1.length:Int)<=h.2.2.2.1
   .rw[aj hf,b7 (show ¬ (aq m h.1).2.1=0 by omega),bf,bz (show h.2.2.2.1>=((aq m h.1).2.2.1.length:Int) from hf),aF];rfl
   .have iR:=I.gU u0 u1 hfi.1 (show h.2.2.2.1<_ by omega);have he:List.getD (aq m h.1).2.2.1 (Int.toNat h.2.2.2.1) (0,0,0,())=qi (aq m h.1).2.2.1 h.2.2.2.1:=rfl;have hw:List.getD m.1 (Int.toNat (qi (aq m h.1).2.2.1 h.2.2.2.1).1) (0,0,0,())=wd m (qi (aq m h.1).2.2.1 h.2.2.2.1).1:=rfl;rw[af hf,b7 (show ¬ (aq m h.1).2.1=0 by omega),bf,b7 (show ¬ h.2.2.2.1>=((aq m h.1).2.2.1.length:Int) by omega),aL,fI hfi.1 (by omega),aF,he,
     fI iR.1.1 (by omega),aF,hw,eqW,qs (show -9223372036854775808<=h.1+1 by omega) (by omega),show((0:Int),h.1+1,h.2.1,())=dM h.1 h.2.1 from rfl]
    by_cases hm:wd m (qi (aq m h.1).2.2.1 h.2.2.2.1).1=dM h.1 h.2.1
    .rw[qf hm,aj hm,qs (by omega) (by omega),AG,J8 (show(qi (aq m h.1).2.2.1 h.2.2.2.1).1.toNat<m.1.length by omega)];by_cases h2:(aq m h.1).2.1=2
     .rw[qf h2,aj h2];rfl
     .rw[qg h2,af h2];rfl
    .rw[qg hm,af hm,qs (by omega) (by omega)];rfl
 .rw[show((aq m h.1).1 != h.2.1)=true by rw[bH,b7 hd];rfl,aF];have ea:q7 m h=(m,h,dH,2,()):=by unfold q7;rw[aj hd]
  rw[ea];rfl
end
section
variable {X:Ext} (hX:f4 X) {n:Nat}
include hX
theorem Qh(D:Den ctx)(n:Nat)(K0:Int->aG->Option ((Int×Unit)×aG×Unit))(K1:aG->Option ((Int×Unit)×aG×Unit))(t:Int)(m:aG)(hl:m.2.2.2.1.length<=1000):∀(i c:Nat),i<=m.2.2.2.1.length->i<c->
  JM D n K0 K1 c t ((i:Int)-1) m=if qS m.2.2.2.1 t i<0 then K1 m else K0 (qS m.2.2.2.1 t i) m
 | _,0,_,h2=>by omega
 | 0,c+1,_,_=>by
  simp only[JM,U4];have rK:qS m.2.2.2.1 t 0 = -1:=rfl;rw[qg (by omega),rK,aj (by omega)]
 | i+1,c+1,h1,h2=>by
  have ih:=Qh D n K0 K1 t m hl i c (by omega) (by omega);simp only[JM,U4];have rK:qS m.2.2.2.1 t (i+1)=if (m.2.2.2.1.getD i dC).1=t/\(m.2.2.2.1.getD i dC).2.2.2.2.1<0 then (i:Int) else qS m.2.2.2.1 t i:=rfl
  have e:(((i+1:Nat):Int)-1)=(i:Int):=by omega
  have hd:m.2.2.2.1.getD i (0,(0,0,0,()),0,0,0,(0,[],()),())=m.2.2.2.1.getD i dC:=rfl;rw[e,qf (by omega),ix (by omega),aF,eB,hd,qs (by omega) (by omega)];by_cases a:(m.2.2.2.1.getD i dC).1=t
  .rw[qf a,aF];by_cases b:(m.2.2.2.1.getD i dC).2.2.2.2.1<0
   .rw[aj ⟨a,b⟩]at rK;rw[qf b,rK,af (by omega)]
   .rw[af (fun q=>b q.2)]at rK;rw[qg b,rK];exact ih
  .rw[af (fun q=>a q.1)]at rK;rw[qg a,rK];exact ih
theorem G6(l:List gf)(t:Int):∀i,-1<=qS l t i/\qS l t i<i
 | 0=>by simp[qS]
 | i+1=>by
  have:=G6 l t i;simp only[qS];split<;>omega
theorem Qb(hn:W+1<=n)(m:aG)(t:Int)(hl:m.2.2.2.1.length<=1000):U6 (DD X n) m t=some ((kF m.2.2.2.1 t,()),(m,())):=by
 obtain⟨n,rfl⟩:∃k,n=k+1:=⟨n-1,by omega⟩
 have hW:=ej;rw[ads hX];simp only[qlm,qln,qkk];rw[qs (by omega) (by omega)];refine dj (Qh hX (DD X n) n _ _ t m hl m.2.2.2.1.length n (cq _) (by omega)) ?_;have:=G6 (X:=X) hX m.2.2.2.1 t m.2.2.2.1.length;unfold kF;by_cases h:qS m.2.2.2.1 t m.2.2.2.1.length<0
 .rw[aj h,show qS m.2.2.2.1 t m.2.2.2.1.length = -1 by omega];rfl
 .rw[af h];rfl
theorem Rh(l:List gf)(t:Int) : -1<=kF l t/\kF l t<l.length:=G6 (X:=X) hX l t _
theorem Kh(hn:W+2<=n)(m:aG)(t:Int)(r:fC)(hl:m.2.2.2.1.length<=1000)(ho:m.2.2.2.2.1.length<=1000)(hr:r.2.1.length<=1000):SP (DD X n) m t r=some ((),(iB m t r,())):=by
 obtain⟨n,rfl⟩:∃k,n=k+1:=⟨n-1,by omega⟩
 have hW:=ej;have hb:=i5;have Xl:=Rh hX m.2.2.2.1 t;rw[ae8 hX];simp only[qt5,q6g];rw[Qb hX (by omega) m t hl,qc];dsimp only;unfold iB;by_cases h:kF m.2.2.2.1 t<0
 .rw[qf h,aj h]
 .rw[qg h,af h,fI (by omega) (by omega),aF,LP hX (by omega) r (by omega),qc];dsimp only;rw[b8,fI (by omega) (by omega),aF,qf (by omega),AG,J8 (show(kF m.2.2.2.1 t).toNat<m.2.2.2.1.length by omega)];rfl
theorem N2(hn:W+2<=n)(m:aG)(t:Int)(r:fC)(t0:0<=t)(t1:t<m.2.1.length)(hl:m.2.2.2.1.length<=1000)(hr:r.2.1.length<=1000)(hp:0<=(ai m t).2.1/\(ai m t).2.1<=1000)(ho:0<=kF m.2.2.2.1 t) :
  SR (DD X n) m t r=some ((),(d_ m t r,())):=by
 obtain⟨n,rfl⟩:∃k,n=k+1:=⟨n-1,by omega⟩
 have hW:=ej;have Xl:=Rh hX m.2.2.2.1 t;rw[aer hX];simp only[qrv,qsf];rw[Qb hX (by omega) m t hl,qc];dsimp only;rw[qf (by omega),fI (by omega) (by omega),aF,LP hX (by omega) r (by omega),qc];dsimp only;rw[b8,fI (by omega) (by omega),aF,AG,J8 (show(kF m.2.2.2.1 t).toNat<m.2.2.2.1.length by omega)];dsimp only;simp only[qqt,q0b];have ht:t.toNat<m.2.1.length:=by omega
 have hx:m.2.1.getD t.toNat ([],0,false,[],[],())=ai m t:=rfl;rw[fI t0 t1,aF];simp only[AG,J8 ht,hx,b8];rw[qs (by omega) (by omega)];unfold d_ ig;rw[af (by omega)];rfl
theorem abE(hn:1<=n)(w:lX)(t:Int)(h0:0<=t/\t<=100)(h:w.2.1≠t+1):iK ctx (DD X n) (bk.mk 177 [bL.cm (Ty.int IntKind.i64) t]) [bL.val BI w] Ty.bool=some false:=by
 obtain⟨n,rfl⟩:∃k,n=k+1:=⟨n-1,by omega⟩
 have e:∀D:Den ctx,iK ctx D (bk.mk 177 [bL.cm (Ty.int IntKind.i64) t]) [bL.val BI w] Ty.bool=(Ov D w t).bind fun r=>some r.1.1:=fun D=>by kernel_rfl
 rw[e,ahK hX];simp only[Ys,OR];rw[qs (by omega) (by omega),b7 h];rfl
theorem akl(hn:W+8<=n){m:aS}{k:Nat}{time:Int}{own lS:Int->Prop}(I:eX m k time own)(h1:1<=k)(hk:k<=3)(ht:time<=1000000){t:Int}(t0:0<=t)(t1:t<k)(hno:¬ own t){E:List eu}{r:fC}(hE:E.length<=1000)(hr:r.2.1.length<=1000)
  (I':eX (bJ m t ((aq m t).1+1,1,E,r,())) k time lS):VQ (DD X n) m t E r=some ((bJ m t ((aq m t).1+1,1,E,r,()),(t,(aq m t).1+1,0,0,()),true,()),()):=by
 obtain⟨n,rfl⟩:∃k,n=k+1:=⟨n-1,by omega⟩
 have hW:=ej;have hlen:=I.len;have me:=I.dw;have Ut:=(I.dy t t0 t1).seq;obtain⟨s1,s2,s3⟩:=Qg hX I hk;rw[ajG hX];simp only[q73,Pf];rw[GS hX (by omega) m s1 s2 s3,qc];dsimp only;rw[xG hX (by omega) I ht h1 (by omega),qc];dsimp only;rw[cJ,aL,qs (by omega) (by omega),k_ hX (by omega),qc];dsimp only;rw[jD ⟨t0,by omega⟩,cJ,aL,ah_ hX (by omega) (by omega) (f:=fun _=>false) (fun w hw=>abE hX (by omega) w t (by omega) (by
  obtain⟨j,hj,rfl⟩:=nH.1 hw;have e:m.1[j]=wd m (j:Int):=by unfold wd;rw[eB,qv hj]
  rw[e];rcases I.word (j:Int) (by omega) (by omega) with q | ⟨v,v0,v1,vo,vm,_⟩
  .have:=q.1;omega
  .rw[vm];simp only[dM];intro q;exact hno (by rw[show t=v by omega];exact vo))),qc]
 dsimp only;have lE:List.getD m.2.1 (Int.toNat t) (0,0,[],(0,[],()),())=aq m t:=rfl;rw[zZ hX,aL,fI t0 (by omega),aF,qc];dsimp only;rw[qm4 hX (by omega) E (by omega),qc,LP hX (by omega) r (by omega),qc];dsimp only;rw[fI t0 (by omega),aF,lE,qs (by omega) (by omega)];have hm:=xG hX (n:=n) (by omega) I' ht h1 (by omega);rw[show((m.1,m.2.1.set t.toNat ((aq m t).1+1,1,E,(r.1,r.2.1,()),()),()):aS)=bJ m t ((aq m t).1+1,1,E,r,()) from rfl,hm,qc];dsimp only;rw[cJ,aL]
end
theorem aa9{m:aS}{h:gv}(e:(q7 m h).2.2.2.1=2):(q7 m h).1=m:=by
 unfold q7 at e⊢
 repeat' split at e
 all_goals first
  | rfl
  | (exfalso;revert e;decide)
  | skip
 all_goals simp_all
theorem aa_{m:aS}{h:gv}(e:(q7 m h).2.2.2.1=3):(q7 m h).1=bJ m h.1 ((aq m h.1).1,2,(aq m h.1).2.2):=by
 unfold q7 at e⊢
 repeat' split at e
 all_goals first
  | (exfalso;revert e;decide)
  | skip
 all_goals simp_all
theorem RE{m:aG}{t:Int}{x:cU}(t0:0<=t)(t1:t<m.2.1.length)(r:fC)(h1:x.1=(ai m t).1)(h2:x.2.1=(ai m t).2.1):d_ (cA m t x) t r=d_ m t r:=by
 have hx:ai (cA m t x) t=x:=by rw[qR ⟨t0,t1⟩ t0,aj rfl]
 unfold d_;rw[hx,h1,h2];unfold ig;rw[show(cA m t x).2.2.2.1=m.2.2.2.1 from rfl];by_cases h:kF m.2.2.2.1 t<0
 .rw[aj h,aj h];unfold cA;dsimp only;rw[AG]
 .rw[af h,af h];unfold cA;dsimp only;rw[AG];rfl
section
variable {X:Ext} (hX:f4 X) {n:Nat}
include hX
theorem RB{m:aS}{k:Nat}{x:cU}{t:Int}(T:js m k x t):Bw x:=by
 have:=T.ops.1;have:=HZ hX T;have:=H9 hX T
 exact⟨by omega,by omega,by omega⟩
theorem abt(hn:W+10<=n){m:aG}(I:Inv m){t:Int}(t0:0<=t)(t1:t<m.2.1.length)(hs:(ai m t).2.2.2.2.1≠[])(Jd:m.2.2.1<=1000000):qng (DD X n) m t=some ((),(kE m t,())):=by
 obtain⟨n,rfl⟩:∃k,n=k+1:=⟨n-1,by omega⟩
 have hW:=ej;have T:=I.th t t0 t1;have ho:=T.Aq hs;have hsh:=RB hX T;have H:=T.dZ _ (mH hs);have KU:=I.n;have me:=I.mem.dw;have ht:t.toNat<m.2.1.length:=by omega
 have hx:m.2.1.getD t.toNat ([],0,false,[],[],())=ai m t:=rfl;obtain⟨k,hk,_⟩:=I.call.jN t t0 t1 ho;have hoc:=I.call.ni hk;have Ul:=hk.dQ;have jL:=IM hX I;have Am:=(IN hX I).o;have An:=T.pc;have hop:=T.ops.1;have u0:=H.t.1;have u1:=H.t.2;have hrl:=(I.mem.dy _ u0 u1).rl;rw[adD hX];simp only[qni,qw8,hx,b8,AG,J8 ht];rw[fI t0 t1,aF,alF hX (by omega) (ai m t) hs (by have:=hsh.2.2;omega),qc];dsimp only;rw[show((m.1.1,m.1.2.1,()):aS)=m.1 from rfl,abG hX (by omega) I.mem H (by omega) (by omega) Jd,qc];dsimp only;unfold kE;by_cases c1:(q7 m.1 (au (ai m t))).2.2.2.1=1
 .rw[qf c1,aj c1];by_cases hc:(au (ai m t)).1=t/\(ai m t).2.2.2.2.1.length=1
  .rw[aj hc,bz hc.1,bA,qf (by omega),Ij hX (by omega) _ hsh,qc];dsimp only;rw[aF];rfl
  .rw[af hc];have e:(bif decide ((au (ai m t)).1=t) then decide (((ai m t).2.2.2.2.1.length:Int)=1) else false)=false:=by
    by_cases a:(au (ai m t)).1=t
    .rw[bz a,bA,b7 (fun q=>hc ⟨a,by omega⟩)]
    .rw[b7 a];rfl
   rw[e,aL,Ik hX (by omega) _ hsh hs,qc];dsimp only;rw[aF];rfl
 rw[qg c1,af c1];by_cases c2:(q7 m.1 (au (ai m t))).2.2.2.1=2
 .rw[qf c2,aj c2,alE hX (by omega) _ hsh hs,qc];dsimp only;rw[aF,aa9 c2];by_cases hne:(au (ai m t)).1≠t
  .rw[show((au (ai m t)).1 != t)=true by rw[bH,b7 hne];rfl,aF,aj hne];rfl
  .have he:(au (ai m t)).1=t:=by omega
   have hd:m.1.2.1.getD t.toNat (0,0,[],(0,[],()),())=aq m.1 t:=rfl;rw[show((au (ai m t)).1 != t)=false by rw[bH,bz he];rfl,aL,af hne,aF,fI t0 (by omega),aF,hd];by_cases hy:(aq m.1 t).2.1=2
   .rw[qf hy,aj hy];have hE:=N2 hX (n:=n) (by omega) (cA m t ((ja (ai m t)).1,(ja (ai m t)).2.1,(ja (ai m t)).2.2.1,(ja (ai m t)).2.2.2.1,[],())) t (aq m.1 t).2.2.2.1 t0 (by rw[oZ];exact t1) (by show m.2.2.2.1.length<=1000;omega) (by rw[he]at hrl;omega)
     (by rw[qR ⟨t0,t1⟩ t0,aj rfl];show 0<=(ai m t).2.1/\(ai m t).2.1<=1000;omega) (by show 0<=kF m.2.2.2.1 t;omega)
    rw[RE (x:=((ja (ai m t)).1,(ja (ai m t)).2.1,(ja (ai m t)).2.2.1,(ja (ai m t)).2.2.2.1,[],())) t0 t1 _ rfl rfl]at hE;refine dj (er (fun z=>qd z _) hE) ?_;rw[qc];rfl
   .rw[qg hy,af hy,aF];rfl
 rw[qg c2,af c2];by_cases c3:(q7 m.1 (au (ai m t))).2.2.2.1=3
 .rw[qf c3,aj c3,aa_ c3];have iH:(bJ m.1 (au (ai m t)).1 ((aq m.1 (au (ai m t)).1).1,2,(aq m.1 (au (ai m t)).1).2.2)).2.1.length=m.1.2.1.length:=Hu _ _ _;have hd:List.getD (bJ m.1 (au (ai m t)).1 ((aq m.1 (au (ai m t)).1).1,2,(aq m.1 (au (ai m t)).1).2.2)).2.1 (au (ai m t)).1.toNat (0,0,[],(0,[],()),())=((aq m.1 (au (ai m t)).1).1,2,(aq m.1 (au (ai m t)).1).2.2):=by have:=n5 (m:=m.1) (u:=(au (ai m t)).1) (t:=(au (ai m t)).1) (d:=((aq m.1 (au (ai m t)).1).1,2,(aq m.1 (au (ai m t)).1).2.2)) (by omega) u0;rw[aj rfl]at this;exact this
  rw[iH,fI u0 (by omega),aF,hd];have hS:=Kh hX (n:=n) (by omega) (cH m (bJ m.1 (au (ai m t)).1 ((aq m.1 (au (ai m t)).1).1,2,(aq m.1 (au (ai m t)).1).2.2))) (au (ai m t)).1 (aq m.1 (au (ai m t)).1).2.2.2.1 (by show m.2.2.2.1.length<=1000;omega) Am (by omega);refine dj (er (fun z=>qd z _) hS) ?_;rw[qc];dsimp only;rw[Ik hX (by omega) _ hsh hs,qc];dsimp only;have e2:(iB (cH m (bJ m.1 (au (ai m t)).1 ((aq m.1 (au (ai m t)).1).1,2,(aq m.1 (au (ai m t)).1).2.2))) (au (ai m t)).1 (aq m.1 (au (ai m t)).1).2.2.2.1).2.1=m.2.1:=by unfold iB;split<;>rfl
  rw[e2,fI t0 t1,aF,<-e2];rfl
 rw[qg c3,af c3,Ik hX (by omega) _ hsh hs,qc];dsimp only;rw[aF];rfl
end
theorem HP(m:aG)(t u:Int)(x:cU)(r:fC):iB (cA m t x) u r=cA (iB m u r) t x:=by
 unfold iB;rw[show(cA m t x).2.2.2.1=m.2.2.2.1 from rfl];by_cases h:kF m.2.2.2.1 u<0
 .rw[aj h,aj h]
 .rw[af h,af h];rfl
theorem xP(m:aG)(u:Int)(r:fC):(iB m u r).2.1=m.2.1:=by unfold iB;split<;>rfl
section
variable {X:Ext} (hX:f4 X) {n:Nat}
include hX
theorem alr(hn:W+15<=n){m:aG}(I:Inv m){t:Int}(t0:0<=t)(t1:t<m.2.1.length)(ho:(ai m t).2.2.1=true)(hs:(ai m t).2.2.2.2.1=[])(oT:(aq m.1 t).1+1<=m.2.2.1)(Jd:m.2.2.1<=1000000) :
  qqa (DD X n) m t=some ((true,()),(tJ m t,())):=by
 obtain⟨n,rfl⟩:∃k,n=k+1:=⟨n-1,by omega⟩
 have hW:=ej;have hb:=i5;have IR:=Sh I t0 t1 ho hs oT;have T:=I.th t t0 t1;have hop:=T.op ho;have hsh:=RB hX T;have iZ:=zQ (t:=t) hs;have hno:¬ bw m t:=by unfold bw;rw[iZ];simp
 obtain⟨q,B,hq⟩:=T.read ho iZ;have nL:=T.along ho;obtain⟨Ja,zw⟩:=J4 hop T.got nL;have oz:C9 (ai m t)=q/\(0<=q/\q<20)/\q∉gY (ai m t).2.2.2.1/\List.length (ai m t).2.2.2.1<8:=by
  rcases zw with h | ⟨q',B',h,h2,h3,h4,h5⟩
  .rw[hq]at h;have:=er List.length h.1;simp at this
  .rw[hq]at h;have:=FU h;simp only[eY]at this;obtain⟨rfl,_⟩:=this;exact⟨h2,h3,h4,h5⟩
 obtain⟨oz,pZ,Xi,hlen⟩:=oz;have KU:=I.n;have hwl:=I.mem.len;have me:=I.mem.dw;have ht:t.toNat<m.2.1.length:=by omega
 have hx:m.2.1.getD t.toNat ([],0,false,[],[],())=ai m t:=rfl;have Xa:List.getD (ai m t).1 (Int.toNat (ai m t).2.1) (0,0,0,())=aV (ai m t):=rfl;have An:=T.pc;have oA:=T.on ho;have al4:=T.ops.1;obtain⟨k,hk,_⟩:=I.call.jN t t0 t1 ho;have hoc:=I.call.ni hk;have Ul:=hk.dQ;have jL:=IM hX I;have Am:=(IN hX I).o;rw[aea hX];simp only[qqg,q0c,hx,b8,AG,J8 ht,Xa];rw[fI t0 t1,aF,fI An.1 oA,aF,aaB hX (by omega) (by omega),qc];dsimp only;have hnp:BW (aV (ai m t)) (ai m t).2.2.2.1=q:=by unfold BW;rw[aj hop];exact oz
 have mE:m.1.1.getD q.toNat (0,0,0,())=wd m.1 q:=rfl;rw[hnp,qf pZ.1,fI pZ.1 (by omega),aF,mE];have Ek:ir m (ai m t)=(ai m t).2.2.2.1++[(q,(wd m.1 q).1,())]:=by unfold ir;rw[oz]
 unfold tJ at IR⊢;rw[oz,Ek]at IR⊢;by_cases hw:(wd m.1 q).2.1≠0
 .rw[aj hw];have xo:(wd m.1 q).2.1<=100/\0<=(wd m.1 q).2.1:=by
   rcases I.mem.word q pZ.1 pZ.2 with z | ⟨v,v0,v1,vo,vm,_⟩
   .exact absurd z.1 hw
   .rw[vm];simp only[dM];omega
  rw[show((wd m.1 q).2.1 != 0)=true by rw[bH,b7 hw];rfl,aF,qs (by omega) (by omega)];rw[show(((ai m t).1,(ai m t).2.1,(ai m t).2.2.1,(ai m t).2.2.2.1,(ai m t).2.2.2.2):cU)=ai m t from rfl,Ij hX (by omega) _ hsh,qc];rfl
 have hw0:(wd m.1 q).2.1=0:=by omega
 rw[af hw]at IR⊢;rw[show((wd m.1 q).2.1 != 0)=false by rw[bH,bz hw0];rfl,aL,qf (by omega)];have hgl:List.length ((ai m t).2.2.2.1++[(q,(wd m.1 q).1,())])<=1000:=by rw[cT,nG];omega
 rw[ajS hX (by omega) (by omega),qc];dsimp only;generalize hg':(ai m t).2.2.2.1++[(q,(wd m.1 q).1,())]=fE at *;have ug:(m.1,m.2.1.set t.toNat ((ai m t).1,(ai m t).2.1,(ai m t).2.2.1,fE,(ai m t).2.2.2.2),m.2.2)=cA m t (rP (ai m t) fE):=rfl;by_cases hpf:(gh (aV (ai m t)) fE).2.1=false
 .rw[aj hpf,hpf,jm,aF,ug]
 .rw[af hpf]at IR⊢;rw[show(gh (aV (ai m t)) fE).2.1=true by simpa using hpf,cJ,aL];have hrl:=abK (aV (ai m t)) fE;by_cases dz:(gh (aV (ai m t)) fE).1.1=true
  .rw[aj dz,dz,aF,ug];have hS:=Kh hX (n:=n) (by omega) (cA m t (rP (ai m t) fE)) t (gh (aV (ai m t)) fE).1.2.1 (by show m.2.2.2.1.length<=1000;omega) Am (by omega);refine dj (er (fun z=>qd z _) hS) ?_;rw[qc];dsimp only;have e1:(iB (cA m t (rP (ai m t) fE)) t (gh (aV (ai m t)) fE).1.2.1).2.1.length=m.2.1.length:=by rw[xP,oZ]
   have fL:ai (iB m t (gh (aV (ai m t)) fE).1.2.1) t=ai m t:=zO (xP _ _ _) t;have Us:iB m t (gh (aV (ai m t)) fE).1.2.1=(m.1,m.2.1,m.2.2.1,m.2.2.2.1.set k.toNat ((ay m.2.2.2.1 k).1,(ay m.2.2.2.1 k).2.1,(ay m.2.2.2.1 k).2.2.1,m.2.2.1,(ay m.2.2.2.1 k).2.2.2.2.1,(gh (aV (ai m t)) fE).1.2.1,()),m.2.2.2.2.1++[k],m.2.2.2.2.2):=by unfold iB;rw[hoc,af (by omega)];rfl
   have KD:(iB (cA m t (rP (ai m t) fE)) t (gh (aV (ai m t)) fE).1.2.1).2.2.2.1=(iB m t (gh (aV (ai m t)) fE).1.2.1).2.2.2.1:=by rw[HP];rfl
   have W_:0<=kF (iB m t (gh (aV (ai m t)) fE).1.2.1).2.2.2.1 t:=by
    have Uy:mX m t=none:=by unfold mX;rw[af (fun z=>by rw[iZ]at z;cases z.1)]
    have gW:(gh (aV (ai m t)) fE).1.2.1.2.1.length<=20:=hrl.1
    -- yZ call is open still
    have gk:ay (m.2.2.2.1.set k.toNat ((ay m.2.2.2.1 k).1,(ay m.2.2.2.1 k).2.1,(ay m.2.2.2.1 k).2.2.1,m.2.2.1,(ay m.2.2.2.1 k).2.2.2.2.1,(gh (aV (ai m t)) fE).1.2.1,())) k=((ay m.2.2.2.1 k).1,(ay m.2.2.2.1 k).2.1,(ay m.2.2.2.1 k).2.2.1,m.2.2.1,(ay m.2.2.2.1 k).2.2.2.2.1,(gh (aV (ai m t)) fE).1.2.1,()):=by rw[Dx hk.dQ hk.dQ.1,aj rfl]
    have key:∀(l:List gf)(j:Int),0<=j->j<l.length->(ay l j).1=t->(ay l j).2.2.2.2.1<0->∀i:Nat,j<i->0<=qS l t i:=by
     intro l j j0 j1 h1 h2 i
     induction i with
     | zero=>intro h;omega
     | succ i ih=>
      intro h;simp only[qS];split
      .omega
      .next hc=>
       refine ih ?_;by_cases e:j=(i:Int)
       .exfalso;refine hc ?_;rw[e]at h1 h2;rw[tA]at h1 h2;exact⟨h1,h2⟩
       .omega
    rw[Us];dsimp only;unfold kF;refine key _ k Ul.1 (by rw[b8];exact Ul.2) ?_ ?_ _ (by rw[b8];exact Ul.2)
    .rw[gk];exact hk.t
    .rw[gk];dsimp only;have:=hk.fin;omega
   have hE:=N2 hX (n:=n) (by omega) (iB (cA m t (rP (ai m t) fE)) t (gh (aV (ai m t)) fE).1.2.1) t (gh (aV (ai m t)) fE).1.2.1 t0 (by rw[e1];exact t1)
    (by rw[KD,Us];dsimp only;rw[b8];omega) (by omega) (by
     rw[HP,qR (by rw[xP];exact⟨t0,t1⟩) t0,aj rfl];show 0<=(ai m t).2.1/\(ai m t).2.1<=1000;omega) (by rw[KD];exact W_)
   refine dj (er (fun z=>qd z _) hE) ?_;rw[qc];dsimp only;have:=RE (m:=iB m t (gh (aV (ai m t)) fE).1.2.1) (t:=t) (x:=rP (ai m t) fE) t0 (by rw[xP];exact t1) (gh (aV (ai m t)) fE).1.2.1 (by rw[fL];rfl) (by rw[fL];rfl);rw[HP,this]
  .rw[af dz]at IR⊢;rw[show(gh (aV (ai m t)) fE).1.1=false by simpa using dz,aL];have hB:=akl hX (n:=n) (by omega) I.mem (by omega) (by omega) Jd t0 t1 hno (E:=(gh (aV (ai m t)) fE).1.2.2.1) (r:=(gh (aV (ai m t)) fE).1.2.1) (by omega) (by omega) (by
    have:=IR.mem;rw[oZ]at this;exact this)
   refine dj (er (fun z=>qd z _) hB) ?_;rw[qc];dsimp only;rw[aF];have hP:=Ij hX (n:=n) (by omega) (rP (ai m t) fE) ⟨hsh.1,hgl,hsh.2.2⟩ (t,(aq m.1 t).1+1,0,0,());refine dj (er (fun z=>qd z _) hP) ?_;rw[qc];rfl
theorem RA{m:aG}{t:Int}:(vn m t).2.2.1=m.2.2.1+1:=by
 have hs:∀(m:aG)(u:Int)(r:fC),(iB m u r).2.2.1=m.2.2.1:=fun m u r=>by unfold iB;split<;>rfl
 have he:∀(m:aG)(u:Int)(r:fC),(d_ m u r).2.2.1=m.2.2.1:=fun m u r=>by unfold d_ ig;split<;>rfl
 unfold vn;split
 .rfl
 .split
  .unfold kE;split
   .split<;>rfl
   .split
    .split
     .rfl
     .split
      .rw[he];rfl
      .rfl
    .split
     .show(iB _ _ _).2.2.1=_;rw[hs];rfl
     .rfl
  .unfold tJ;split
   .rfl
   .split
    .rfl
    .split
     .rw[he,hs];rfl
     .rfl
theorem aaQ(hn:W+17<=n){m:aG}(I:Inv m){t:Int}(t0:0<=t)(t1:t<m.2.1.length)(ht:m.2.2.1<=100000)(hd:(ai m t).2.1=(ai m t).1.length):JZ (DD X n) m t=some ((m,false,()),()):=by
 obtain⟨n,rfl⟩:∃k,n=k+2:=⟨n-2,by omega⟩
 have KU:=I.n;have hx:m.2.1.getD t.toNat ([],0,false,[],[],())=ai m t:=rfl;rw[PF hX];simp only[UE,Gg,hx];rw[ID hX (by omega) I ht,qc];dsimp only;rw[cJ,aL,qs (by omega) (by omega),k_ hX (by omega),qc];dsimp only;rw[jD ⟨t0,by omega⟩,cJ,aL,fI t0 t1,aF,qub hX];simp only[Vh,qun];rw[qc];dsimp only;rw[bz hd,bA,aF,VK hX (by omega) (IN hX I),qc]
theorem alq(hn:W+17<=n){m:aG}(I:Inv m){t:Int}(t0:0<=t)(t1:t<m.2.1.length)(ht:m.2.2.1<100000)(hd:(ai m t).2.1<(ai m t).1.length):JZ (DD X n) m t=some ((vn m t,true,()),()):=by
 obtain⟨n,rfl⟩:∃k,n=k+2:=⟨n-2,by omega⟩
 have hW:=ej;have hb:=i5;have KU:=I.n;have hti:=I.time;have hx:m.2.1.getD t.toNat ([],0,false,[],[],())=ai m t:=rfl;have IS:=Si I t0 t1 hd;have hts:=RA hX (m:=m) (t:=t);have hok:=ID hX (n:=n+1) (by omega) IS (by omega);have jL:=IM hX I;have T:=I.th t t0 t1;have An:=T.pc;rw[PF hX];simp only[UE,Gg,hx];rw[ID hX (by omega) I (by omega),qc];dsimp only;rw[cJ,aL,qs (show -9223372036854775808<=(m.2.1.length:Int)-1 by omega) (by omega),k_ hX (by omega),qc];dsimp only;rw[jD ⟨t0,by omega⟩,cJ,aL,fI t0 t1,aF,qub hX];simp only[Vh,qun];rw[qc];dsimp only;rw[b7 (show ¬ (ai m t).2.1=(ai m t).1.length by omega),bf,b7 (show ¬ m.2.2.1=100000 by omega),aL,VK hX (by omega) (IN hX I),qc];dsimp only;rw[fI t0 t1,aF,hx,qs (show -9223372036854775808<=m.2.2.1+1 by omega) (by omega)];unfold vn at hok⊢;by_cases h1:(ai m t).2.2.1=false
 .rw[aj h1]at hok⊢;rw[h1,jm,aF,fI An.1 hd,aF,qf (by omega)];refine dj (er (fun z=>qd z _) hok) ?_;rw[qc];dsimp only;rw[cJ,aL];rfl
 rw[af h1]at hok⊢;have tS:(ai m t).2.2.1=true:=by simpa using h1
 rw[tS,cJ,aL];by_cases h2:(ai m t).2.2.2.2.1≠[]
 .have hlp:0<(ai m t).2.2.2.2.1.length:=pz.2 h2;rw[aj h2]at hok⊢;rw[qf (by omega)];have hA:=abt hX (n:=n+1) (by omega) (IQ I) t0 t1 h2 (by show m.2.2.1+1<=1000000;omega);refine dj (er (fun z=>qd z _) hA) ?_;rw[qc];dsimp only;refine dj (er (fun z=>qd z _) hok) ?_;rw[qc];dsimp only;rw[cJ,aL]
 .have sW:(ai m t).2.2.2.2.1=[]:=by simpa using h2
  rw[af h2]at hok⊢;rw[qg (by rw[sW];simp)];have hA:=alr hX (n:=n+1) (by omega) (IQ I) t0 t1 tS sW (by
   have:=(I.mem.dy t t0 t1).seq.2;show(aq m.1 t).1+1<=m.2.2.1+1;omega) (by show m.2.2.1+1<=1000000;omega)
  refine dj (er (fun z=>qd z _) hA) ?_;rw[qc];dsimp only;rw[cJ,aL];refine dj (er (fun z=>qd z _) hok) ?_;rw[qc];dsimp only;rw[cJ,aL]
end
def jn(m:aG)(t:Int):aG:=if (ai m t).2.1<(ai m t).1.length then vn m t else m
def tI(m:aG)(who:List Int):aG:=who.foldl jn m
theorem adi(m:aG)(t:Int):(vn m t).2.1.length=m.2.1.length:=by
 have hs:∀(m:aG)(u:Int)(r:fC),(iB m u r).2.1=m.2.1:=xP;have he:∀(m:aG)(u:Int)(r:fC),(d_ m u r).2.1.length=m.2.1.length:=fun m u r=>by
  unfold d_;rw[oZ];unfold ig;split<;>rfl
 unfold vn;split
 .unfold pO;rw[oZ];rfl
 .split
  .unfold kE;split
   .split<;>(rw[oZ];rfl)
   .split
    .split
     .rw[oZ];rfl
     .split
      .rw[he];rfl
      .rw[oZ];rfl
    .split
     .rw[oZ,hs];rfl
     .rw[oZ];rfl
  .unfold tJ;split
   .rw[oZ];rfl
   .split
    .rw[oZ];rfl
    .split
     .rw[he,hs];rfl
     .rw[oZ];rfl
theorem Fh(m:aG)(t:Int):(jn m t).2.1.length=m.2.1.length:=by
 unfold jn;split
 .exact adi m t
 .rfl
theorem ac8(who:List Int):∀m:aG,(tI m who).2.1.length=m.2.1.length:=by
 induction who with
 | nil=>intro m;rfl
 | cons t who ih=>intro m;show(tI (jn m t) who).2.1.length=_;rw[ih,Fh]
theorem xT{m:aG}(I:Inv m){t:Int}(t0:0<=t)(t1:t<m.2.1.length):Inv (jn m t):=by
 unfold jn;split
 .next h=>exact Si I t0 t1 h
 .exact I
section
variable {X:Ext} (hX:f4 X) {n:Nat}
include hX
theorem Bh(m:aG)(t:Int):m.2.2.1<=(jn m t).2.2.1/\(jn m t).2.2.1<=m.2.2.1+1:=by
 unfold jn;split
 .rw[RA hX];omega
 .omega
theorem Kg(hn:W+17<=n){m:aG}(I:Inv m){t:Int}(t0:0<=t)(t1:t<m.2.1.length)(ht:m.2.2.1<100000):JZ (DD X n) m t=some ((jn m t,decide ((ai m t).2.1<(ai m t).1.length),()),()):=by
 unfold jn;by_cases h:(ai m t).2.1<(ai m t).1.length
 .rw[aj h,bz h];exact alq hX hn I t0 t1 ht h
 .rw[af h,b7 h];have:=(I.th t t0 t1).pc;exact aaQ hX hn I t0 t1 (by omega) (by omega)
theorem acH(who:List Int):∀{m:aG},Inv m->(∀t∈who,0<=t/\t<m.2.1.length)->Inv (tI m who)/\(tI m who).2.2.1<=m.2.2.1+who.length/\m.2.2.1<=(tI m who).2.2.1:=by
 induction who with
 | nil=>intro m I _;exact⟨I,by show m.2.2.1<=_;simp,eA _⟩
 | cons t who ih=>
  intro m I h;have ht:=h t e7;have hg:=Bh hX m t;have:=ih (xT I ht.1 ht.2) (fun u hu=>by rw[Fh];exact h u (cF _ hu));refine⟨this.1,?_,?_⟩
  .show(tI (jn m t) who).2.2.1<=_;rw[ct];have:=this.2.1;omega
  .show _<=(tI (jn m t) who).2.2.1;have:=this.2.2;omega
theorem Np(N n:Nat)(hN:W+17<=N)(K:aG->aG->Option ((aG×Unit)×Unit))(who:List Int)(hl:who.length<=2000)(z:aG):∀(c i:Nat)(m:aG),i<=who.length->who.length-i<c->Inv m->(∀t∈who,0<=t/\t<m.2.1.length)->m.2.2.1+(who.length-i:Nat)<=100000->
  TE (DD X N) n K c who (who.length:Int) (i:Int) m z=K (tI m (who.drop i)) z
 | 0,i,_,_,h2,_,_,_=>by omega
 | c+1,i,m,h1,h2,I,hw,ht=>by
  simp only[TE,q82];by_cases hi:i<who.length
  .have hr:=hw _ (ez hi);have hg:=Bh hX m who[i];have ih:=Np N n hN K who hl z c (i+1) (jn m who[i]) (by omega) (by omega) (xT I hr.1 hr.2) (fun t h=>by rw[Fh];exact hw t h) (by omega);rw[qf (by omega),ix hi,aF,eB,qv hi,qu (by omega),Kg hX (by omega) I hr.1 hr.2 (by omega),qc];dsimp only;rw[ih,uP hi];rfl
  .rw[qg (by omega),uT hi];rfl
theorem aln(hn:W+18<=n){m:aG}(I:Inv m)(who:List Int)(hl:who.length<=2000)(hw:∀t∈who,0<=t/\t<m.2.1.length)(ht:m.2.2.1+who.length<=100000):Gn (DD X n) m who=some ((tI m who,()),()):=by
 obtain⟨n,rfl⟩:∃k,n=k+1:=⟨n-1,by omega⟩
 have hW:=ej;rw[aar hX];simp only[Gr,Gx,ZX];rw[VK hX (by omega) (IN hX I),qc];dsimp only;rw[qg (by omega)];refine dj (Np hX n n (by omega) _ who hl _ n 0 m (eZ _) (by omega) I hw (by omega)) ?_;rw[jU];rfl
end
def o4(r:qp):List Int:=(List.range 20).map fun p:Nat=>b_ r (p:Int)
def dX(r:qp)(L:List (List cK)):aG:=(((o4 r).map fun v=>((v,0,0,()):lX),List.replicate L.length dD,()),L.map fun ops=>((ops,0,false,[],[],()):cU),0,[],[],r,())
structure iD (L:List (List cK)):Prop where
 n:1<=L.length/\L.length<=3
 ops:∀ops∈L,ops.length<=4/\∀o∈ops,dh o=true
theorem uR(r:qp):(o4 r).length=20:=by unfold o4;simp
theorem AM(r:qp){p:Nat}(h:p<20):(o4 r).getD p 0=b_ r (p:Int):=by unfold o4;rw[qv (by simp[h])];simp
theorem Qv{a b:List Int}(ha:a.length=20)(hb:b.length=20)(h:∀p:Nat,p<20->a.getD p 0=b.getD p 0):a=b:=by
 apply B9 (by omega);intro p h1 h2;have:=h p (by omega)
 rwa [qv h1,qv h2]at this
theorem L6{r:qp}(hr:aW r){L:List (List cK)}(hL:iD L):Inv (dX r L):=by
  have Ai:=hL.n;have j5:(dX r L).2.1.length=L.length:=by unfold dX;simp
  have mE:∀p:Int,0<=p->p<20->wd (dX r L).1 p=(b_ r p,0,0,()):=by intro p p0 p1;unfold wd dX;dsimp only;rw[qv (by rw[jA,uR];omega),yg];have:=AM r (p:=p.toNat) (by omega);rw[qv (by rw[uR];omega)]at this;rw[this,show((p.toNat:Nat):Int)=p by omega]
  have lE:∀t:Int,aq (dX r L).1 t=dD:=by intro t;unfold aq dX;dsimp only;rw[FQ,vB];split<;>rfl
  have xh:∀t:Int,0<=t->t<L.length->∃ops∈L,ai (dX r L) t=(ops,0,false,[],[],()):=by
    intro t t0 t1;have hlt:t.toNat<L.length:=by omega
    refine⟨L[t.toNat],ez _,?_⟩;unfold ai dX;dsimp only;rw[qv (by simpa using hlt),yg]
  have hno:∀t:Int,0<=t->t<L.length->¬ bw (dX r L) t:=by intro t t0 t1;obtain⟨ops,_,e⟩:=xh t t0 t1;unfold bw;rw[e];simp[bC]
  refine⟨by rw[j5];exact hL.n,by show(0:Int)<=0;omega,?_,?_,?_,?_,hr⟩
  . rw[j5]
    refine⟨by unfold dX;simp[uR],by unfold dX;simp,?_,?_,?_,?_,?_⟩
    . intro t _ _
      rw[lE];exact⟨List.Pairwise.nil,by simp[dD],fun e he=>by simp[dD]at he,by show(0:Int)<=0/\(0:Int)<=0;omega,⟨fun _=>rfl,fun h=>by simp[dD]at h⟩,by simp[dD]⟩
    . intro p p0 p1
      left;rw[mE p p0 p1];have:=BY hr p ⟨p0,p1⟩;exact⟨rfl,rfl,this.1,by dsimp only;omega⟩
    . intro t _ _ e
      rw[lE]at e;simp[dD]at e
    . intro t t0 t1 e
      exact absurd e (hno t t0 t1)
    . intro t _ _ e
      rw[lE]at e;simp[dD]at e
  . intro t t0 t1
    rw[j5]at t1⊢;obtain⟨ops,ho,e⟩:=xh t t0 t1;rw[e];have h2:=hL.ops ops ho
    exact { ops:=h2,pc:=⟨eA _,by dsimp only;omega⟩,on:=fun q=>(by cases q),off:=fun _=>⟨rfl,rfl⟩,got:=fun g hg=>by simp at hg,st:=.inl rfl,dZ:=fun k hk=>by simp at hk,own:=fun k hk=>by simp at hk,
            along:=fun q=>(by cases q),read:=fun q=>(by cases q),plan:=fun q=>by simp[bC]at q }
  . rw[j5]
    refine⟨fun k a b=>?_,fun j k a b c=>?_,fun t t0 t1=>?_,fun t t0 t1 e=>?_,fun t t0 t1 _ k a b=>?_,fun t k _ _ hk=>?_,fun k hk=>?_,?_,?_,fun k a b=>?_⟩
    . simp[dX]at b;omega
    . simp[dX]at c;omega
    . obtain⟨ops,_,e⟩:=xh t t0 t1
      rw[e];simp[dX,v8]
    . obtain⟨ops,_,e2⟩:=xh t t0 t1
      rw[e2]at e;cases e
    . simp[dX]at b;omega
    . have:=hk.dQ
      simp[dX]at this;omega
    . simp[dX]at hk
    . exact List.nodup_nil
    . exact List.Pairwise.nil
    . simp[dX]at b;omega
  . refine⟨r,hr,iE.nil r,fun p p0 p1=>?_⟩
    rw[uZ (by rw[mE p p0 p1]),mE p p0 p1]
section
variable {X:Ext} (hX:f4 X) {n:Nat}
include hX
theorem Sq(D:Den ctx)(n:Nat)(K:aS->aS->Option ((aS×Bool×Unit)×Unit))(ws:List Int)(hl:ws.length<=1000)(z:aS)(d:List nt×Unit):∀(c i:Nat),i<=ws.length->ws.length-i<c->
  Tl D n K c (ws.length:Int) (i:Int) z ((ws.take i).map (fun v=>((v,0,0,()):lX)),d) ws=K z (ws.map (fun v=>((v,0,0,()):lX)),d)
 | 0,i,_,h2=>by omega
 | c+1,i,h0,h2=>by
  have hb:=i5;simp only[Tl,YB];by_cases hi:i<ws.length
  .have ih:=Sq D n K ws hl z d c (i+1) (by omega) (by omega);rw[qf (by omega),ix hi,aF,eB,qv hi,qu (by omega)];rw[qf (by rw[jA,eP];omega)];rw[mO hi,pE]at ih;exact ih
  .rw[qg (by omega),show ws.take i=ws from jR (by omega)]
theorem Q7(hn:W+6<=n){r:qp}(hr:aW r):Tj (DD X n) r=some ((o4 r,()),()):=by obtain⟨ws,h1,h2,h3⟩:=acL hX hn hr;rw[h3,Qv h1 (uR r) (fun p hp=>by rw[h2 p hp,AM r hp];rfl)]
theorem ack(hn:W+8<=n){r:qp}(hr:aW r){L:List (List cK)}(hL:iD L):Zw (DD X n) r (L.length:Int)=some (((dX r L).1,true,()),()):=by
 obtain⟨n,rfl⟩:∃k,n=k+1:=⟨n-1,by omega⟩
 have hW:=ej;have hb:=i5;have Ai:=hL.n;have I:=L6 hr hL;have j5:(dX r L).2.1.length=L.length:=by unfold dX;simp
 rw[aiR hX];simp only[ZH,ZT,qyp];rw[k_ hX (by omega),qc];dsimp only;rw[jD ⟨by omega,by omega⟩,cJ,aL,show(decide (0<=(L.length:Int))&&decide ((L.length:Int)<=(L.length:Int))&&decide ((L.length:Int)<=(f9:Int)))=true by simp;omega,aF,Q7 hX (by omega) hr,qc];dsimp only;refine dj (Sq hX (DD X n) n _ (o4 r) (by rw[uR];omega) ([],[],()) (List.replicate L.length dD,()) n 0 (eZ _) (by rw[uR];omega)) ?_;simp only[q8y];have hm:=xG hX (n:=n) (by omega) I.mem (by show(0:Int)<=1000000;omega) (by rw[j5];omega) (by rw[j5];omega);refine dj (er (fun z=>qd z _) hm) ?_;rw[qc];dsimp only;rw[cJ,aL];rfl
theorem Rc(N n:Nat)(hN:2<=N)(K:Bool->aG->aG->Option ((aG×Bool×Unit)×Unit))(L:List (List cK))(hl:L.length<=1000)(h1:∀ops∈L,ops.length<=1000)(b:Bool)(z:aG)(a:aS)(e:Int×List gf×List Int×qp×Unit):∀(c i:Nat),i<=L.length->L.length-i<c->
  SU (DD X N) n K c b L (L.length:Int) (i:Int) z (a,(L.take i).map (fun ops=>((ops,0,false,[],[],()):cU)),e)=K b z (a,L.map (fun ops=>((ops,0,false,[],[],()):cU)),e)
 | 0,i,_,h2=>by omega
 | c+1,i,h0,h2=>by
  have hb:=i5;simp only[SU,qsc];by_cases hi:i<L.length
  .have ih:=Rc N n hN K L hl h1 b z a e c (i+1) (by omega) (by omega);have hd:=h1 _ (ez hi);obtain⟨N,rfl⟩:∃k,N=k+1:=⟨N-1,by omega⟩
   rw[qf (by omega),ix hi,aF,eB,qv hi,qu (by omega),afE hX];simp only[qvy,q89];rw[qts hX (by omega) _ (by omega),qc,qc];dsimp only;rw[qf (by rw[jA,eP];omega)];rw[mO hi,pE]at ih;exact ih
  .rw[qg (by omega),show L.take i=L from jR (by omega)]
theorem abq(hn:W+11<=n){r:qp}(hr:aW r){L:List (List cK)}(hL:iD L):qtv (DD X n) r L=some ((dX r L,true,()),()):=by
 obtain⟨n,rfl⟩:∃k,n=k+1:=⟨n-1,by omega⟩
 have hW:=ej;have Ai:=hL.n;have I:=L6 hr hL;rw[ae7 hX];simp only[qt4,qui,qqp];rw[ack hX (by omega) hr hL,qc,UK hX (by omega) hr,qc];dsimp only;refine dj (Rc hX n n (by omega) _ L (by omega) (fun ops h=>by have:=(hL.ops ops h).1;omega) true (([],[],()),[],0,[],[],([],0,()),()) (dX r L).1 (0,[],[],r,()) n 0 (eZ _) (by omega)) ?_;simp only[qyl];have hm:=ID hX (n:=n) (by omega) I (by show(0:Int)<=100000;omega);rw[cJ,aL];refine dj (er (fun z=>qd z _) hm) ?_;rw[qc];dsimp only;rw[cJ,aL];rfl
end
end Go.G

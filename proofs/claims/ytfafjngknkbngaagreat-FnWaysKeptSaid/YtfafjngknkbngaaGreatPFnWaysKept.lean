/- The row FnWaysKept holds: for all bytes the law returns true and the argument reads as before. No condition. -/
import Derived.Lib.AppendZerosOnto
import Derived.Laws.Externs
import Derived.Lib.Overlaps
import Derived.Test.YtfafjngknkbngaaGreatAPFnWaysKept2
set_option linter.unusedVariables false
set_option linter.unusedSimpArgs false
set_option linter.unusedSectionVars false
namespace Go.V
set_option maxRecDepth 100000
open Go Go.Proofs Go.RowKit
abbrev TWay:Ty:=.pair .str (.pair .str .unit)
abbrev SigW:Sig:=⟨[.own (.sl TWay) (Mk.top (.sl TWay)),.val (.int .i64),.own (.sl TWay) (Mk.top (.sl TWay))],[.val (.sl TWay) (Mk.top (.sl TWay))]⟩
theorem sigW:ctx.sig 93=SigW:=by kernel_rfl
def insW (xs:List TWay.den) (i:Int) (ys:List TWay.den):Option (List TWay.den):=if 0≤i∧i≤xs.length∧0<ys.length∧xs.length+ys.length≤qbh then some (xs.take i.toNat++ys++xs.drop i.toNat) else none
theorem qu5 {P:Program} (w:World) (dT sT ty elem:TypeId) {i:TypeInfo} (b o dLen dCap:Nat) (a:Addr) (sLen sCap:Nat) (cs:List Value)
  (hu:P.underlying dT=some (.slice elem)) (hi:P.info? elem=some i) (hn:Nat.min sLen dLen * i.size=cs.length)
  (hsrc:∀ j v,cs[j]? = some v→w.cell? (a.add j)=some v) (hc:∀ j,j<cs.length→(w.cell? ⟨b,o+j,none⟩).isSome=true) (hf:∀ j,j<cs.length→w.frozen? ⟨b,o+j,none⟩=false) (h1:∀ v∈cs,v.oneCell'=true) :
  (Builtin.copy_ #[dT,sT] ty #[.slice (some ⟨b,o,none⟩) dLen dCap,.slice (some a) sLen sCap]).run P w=.ok (goInt (Nat.min sLen dLen)) (w.setCells b o cs):=by
 have hl:=run_loadCells_list (P:=P) w a cs hsrc
 have hst:=run_storeCells_cells (P:=P) b o cs 0 w (by simpa using hc) (by simpa using hf) h1
 simp[Builtin.copy_,run_underlying hu,Builtin.lenOf,Builtin.firstCells,sizeOf,typeInfo,hi,hn,hl,hst]
theorem El.all {h:Array Obj} {Pr:BS} {e:Ty} {mi:Mk} {xs:List e.den} {cells:List Value} {F:Nat→BS} (el:El h Pr e mi xs cells F) (hw:0<e.width) (hl:cells.length=xs.length * e.width):∀ u∈cells,u.oneCell'=true:=by
 intro u hu
 obtain ⟨k,hk,rfl⟩:=List.getElem_of_mem hu
 have hk2:k / e.width<xs.length:=by rw[Nat.div_lt_iff_lt_mul hw];omega
 have r:=el.rep (k / e.width) hk2
 refine Rep.one _ r _ ?_
 rw[List.mem_iff_getElem?]
 refine ⟨k % e.width,?_⟩
 have e1:k / e.width * e.width+k % e.width=k:=by rw[Nat.mul_comm];exact Nat.div_add_mod k e.width
 rw[List.getElem?_take,if_pos (Nat.mod_lt _ hw),List.getElem?_drop,e1,List.getElem?_eq_getElem]
theorem qbu2:qbh7 Tryz.prog SigW 93 fun a=>(insW a.1 a.2.1 a.2.2.1).map fun r=>((r,()),()):=by
 intro a r h w Pr Fs vs pre
 obtain ⟨xs,i,ys,⟨⟩⟩:=a
 change List TWay.den at xs
 change Int at i
 change List TWay.den at ys
 obtain ⟨v1,vs1,rfl,⟨c1,rep1,rfl⟩,v2,vs2,rfl,⟨c2,r2,rfl⟩,v3,vs3,rfl,⟨c3,rep3,rfl⟩,k3⟩:=pre.rel
 obtain rfl:vs3=[]:=k3
 simp only[Rep] at r2
 subst r2
 dsimp only at h
 unfold insW at h
 split at h
 ·rename_i hc
  obtain ⟨h0,hi,hm,hbd⟩:=hc
  replace h0:0≤i:=h0
  replace hi:i≤xs.length:=hi
  replace hm:0<ys.length:=hm
  replace hbd:xs.length+ys.length≤274877906944:=hbd
  simp only[Option.map_some,Option.some.injEq] at h
  subst h
  obtain ⟨i,rfl⟩:=Int.eq_ofNat_of_zero_le h0
  have hi2:i≤xs.length:=by omega
  obtain ⟨ad1,cap1,cells1,F1,rfl,hl1,hlc1,hsrc1,el1,hF1,hown1⟩:=qnh (by simp[Mk.top]) (by simp[Mk.top]) rep1
  obtain ⟨ad2,cap2,cells2,F2,rfl,hl2,hlc2,hsrc2,el2,hF2,hown2⟩:=qnh (by simp[Mk.top]) (by simp[Mk.top]) rep3
  have hw1:TWay.width=2:=rfl
  replace hlc1:xs.length≤cap1:=hlc1
  replace hlc2:ys.length≤cap2:=hlc2
  have hl1':cells1.length=xs.length * 2:=by rw[hl1,hw1]
  have hl2':cells2.length=ys.length * 2:=by rw[hl2,hw1]
  rcases hown2 0 _ rfl with hc0 | ⟨b2,cs2,rfl,hbF2,hbo2,hcapb2,hFb2,hcells2⟩
  ·exact absurd hc0 (by omega)
  replace hcapb2:cap2 * 2≤cs2.size:=by rw[hw1] at hcapb2;exact hcapb2
  replace hcells2:cells2=sub cs2 0 (ys.length * 2):=by rw[hcells2,hw1]
  have hd12:∀ p q,Dis (F1 p) (F2 q):=fun p q=>(pre.dis 0 2 (by decide)).mono (hF1 p) (hF2 q)
  obtain ⟨FF,elz,hFF⟩:=El.insert el1 el2 i hi2 (by rw[hl1]) (by rw[hl2]) hd12
  rw[hw1] at elz
  have hFs:∀ t b,FF t b→∃ k,Fs k b:=fun t b hb=>by
   rcases hFF t b hb with ⟨c,hc⟩ | ⟨c,hc⟩
   ·exact ⟨0,hF1 c b hc⟩
   ·exact ⟨2,hF2 c b hc⟩
  have hlz:(xs.take i++ys++xs.drop i).length=xs.length+ys.length:=by simp only[List.length_append,List.length_take,List.length_drop];omega
  have hone1:=el1.all (by decide) hl1
  have hone2:=el2.all (by decide) hl2
  have uT:Tryz.prog.underlying 35=some (.slice 42):=by kernel_rfl
  have u3:Tryz.prog.underlying 3=some (.int .i64):=by kernel_rfl
  obtain ⟨i0,z0,hi0,hs0,hz0,hzs,hb0⟩:∃ i0 z0,Tryz.prog.info? 42=some i0∧i0.size=2∧i0.zero=some z0∧z0.cells.size=2∧i0.bytes=32:=by
   have k:((Tryz.prog.info? 42).map fun x=>(x.size,x.zero.map (·.cells.size),x.bytes))=some (2,some 2,32):=by kernel_rfl
   cases h:Tryz.prog.info? 42 with
   | none=>rw[h] at k;cases k
   | some x=>
    rw[h] at k
    simp only[Option.map_some,Option.some.injEq,Prod.mk.injEq] at k
    cases hz:x.zero with
    | none=>rw[hz] at k;cases k.2.1
    | some z=>
     rw[hz] at k
     simp only[Option.map_some,Option.some.injEq] at k
     exact ⟨x,z,rfl,k.1,hz,k.2.1,k.2.2⟩
  have hn2:(Builtin.firstCells i0.size ys.length (.slice (some ⟨b2,0,none⟩) ys.length cap2)).run Tryz.prog w=.ok cells2.toArray w:=by
   rw[hs0]
   exact qhb hl2' (.inr ⟨b2,0,rfl,by rw[hcells2];exact qb1 hbo2.blk (by omega)⟩)
  have ht0:cells1.take (xs.length * 2)=cells1:=List.take_of_length_le (by omega)
  have hd0:cells1.drop (xs.length * 2)=[]:=List.drop_eq_nil_of_le (by omega)
  have houts:∀ (h:Array Obj) (v1 v2 v3:Value),qgn h Pr (fun _=>Nil) 0 SigW.params () [v1,v2,v3]:=fun h v1 v2 v3=>⟨_,_,rfl,_,_,rfl,_,_,rfl,rfl⟩
  by_cases hend:i=xs.length
  ·subst hend
   rw[ht0,hd0,List.append_nil] at elz
   by_cases hroom:xs.length+ys.length≤cap1
   ·rcases hown1 0 _ rfl with hc0 | ⟨b1,cs1,rfl,hbF1,hbo1,hcapb1,hFb1,hcells1⟩
    ·exact absurd hc0 (by omega)
    replace hcapb1:cap1 * 2≤cs1.size:=by rw[hw1] at hcapb1;exact hcapb1
    replace hcells1:cells1=sub cs1 0 (xs.length * 2):=by rw[hcells1,hw1]
    have hfit:xs.length * 2+cells2.length≤cs1.size:=by omega
    have hr:∀ ty,(Builtin.append_ #[35,35] ty #[.slice (some ⟨b1,0,none⟩) xs.length cap1,.slice (some ⟨b2,0,none⟩) ys.length cap2]).run Tryz.prog w=.ok (.slice (some ⟨b1,0,none⟩) (xs.length+ys.length) cap1) (w.setCells b1 (xs.length * 2) cells2):=fun ty=>
     qlu (P:=Tryz.prog) w (ty:=ty) rfl rfl uT uT hi0 hn2 hroom (fun ad e=>by
      simp only[Option.some.injEq] at e
      subst e
      rw[Addr.add_mid,Nat.zero_add,hs0]
      have th:=qfc (w:=w) (o:=xs.length * 2) (n:=cells2.length) hbo1 hfit
      have:=run_storeCells_cells (P:=Tryz.prog) b1 (xs.length * 2) cells2 0 w (fun t ht=>by simpa using (th t ht).1) (fun t ht=>by simpa using (th t ht).2) hone2
      simpa using this) (fun e=>by simp at e)
    obtain ⟨ty,lo,hi',he,hfz⟩:=hbo1
    obtain ⟨cs3,hcs3,hcs3l⟩:=qdv cells2 (xs.length * 2) w cs1 he hfit
    have hsz3:cs3.size=cs1.size:=by rw[←Array.length_toList,hcs3l,qcq (by simpa using hfit),Array.length_toList]
    have hob3:qbk (w.setCells b1 (xs.length * 2) cells2).heap b1 cs3:=⟨ty,lo,hi',hcs3,fun t ht=>hfz t (by omega)⟩
    have h7:cs1.toList.length=cs1.size:=Array.length_toList
    have htake:cs3.toList.take ((xs.take xs.length++ys++xs.drop xs.length).length * TWay.width)=cells1++cells2:=by
     rw[hw1,hlz,hcs3l,hcells1]
     simp only[repl,sub,List.drop_zero]
     rw[List.take_append_of_le_length (by rw[List.length_append,List.length_take,hl2'];omega),List.take_of_length_le (by rw[List.length_append,List.length_take,hl2'];omega)]
    have hrest:=qcp (b:=b1) cells2 (xs.length * 2) w
    have hFBb:∀ t,¬ FF t b1:=fun t hb=>by
     rcases hFF t b1 hb with ⟨c,hc⟩ | ⟨c,hc⟩
     ·exact hFb1 c hc
     ·exact pre.dis 0 2 (by decide) b1 hbF1 (hF2 c b1 hc)
    refine (qbnh (some ⟨b1,0,none⟩) xs.length cap1 ys.length (some ⟨b2,0,none⟩) cap2 w _ _ hm hlc1 (.inl ⟨b1,rfl⟩) hr).mono ?_
    rintro e w' ⟨rfl,rfl⟩
    obtain ⟨val,Pr',Gs,Os,us,hv,hp⟩:=qwc pre elz hFs hob3 (cap:=cap1) (by rw[hw1];omega) (by rw[hlz];exact hroom) htake (.inr ⟨0,hbF1⟩) hFBb (fun b' _ hb'=>qbl cells2 _ w b' hb') (by rw[qbb];exact Nat.le_refl _) (by rw[qbb];exact pre.lim 0 b1 hbF1) hrest.1 hrest.2.1 hrest.2.2 () (houts _ _ _ _)
    exact ⟨val,Pr',Gs,Os,us,by rw[←hv,hlz],hp⟩
   ·have hg:cap1<xs.length+ys.length:=by omega
    have hn2d:(Builtin.firstCells i0.size ys.length (.slice (some ⟨b2,0,none⟩) ys.length cap2)).run Tryz.prog w.drew=.ok cells2.toArray w.drew:=by
     rw[hs0]
     exact qhb hl2' (.inr ⟨b2,0,rfl,qdr (by rw[hcells2];exact qb1 hbo2.blk (by omega))⟩)
    have hn1d:(Builtin.firstCells i0.size xs.length (.slice ad1 xs.length cap1)).run Tryz.prog w.drew=.ok cells1.toArray w.drew:=by
     rw[hs0]
     refine qhb hl1' ?_
     rcases hsrc1 with ⟨h1,h2⟩ | ⟨b,o,cs,h1,h2,h3,h4⟩
     ·exact .inl ⟨h1,h2⟩
     ·exact .inr ⟨b,o,h1,qdr (h4 ▸ qb1 h2 h3)⟩
    have hfit:Builtin.nextslicecap (xs.length+ys.length) cap1 * i0.bytes≤281474976710656:=by
     have:=Room.nextslicecap_le' (need:=xs.length+ys.length) (old:=cap1) hg
     rw[hb0];omega
    have hr:=fun ty=>qw6 (P:=Tryz.prog) w (ats:=#[35,35]) (ty:=ty) rfl rfl uT uT hi0 hz0 hn2d hn1d hg (by omega) hfit
    have hge:=grownCap_ge w (xs.length+ys.length) cap1 42
    generalize grownCap w (xs.length+ys.length) cap1 42=cap' at hr hge
    have hcss:(cells1.toArray++cells2.toArray++Builtin.zeroCells z0.cells (cap' - (xs.length+ys.length))).size=cap' * 2:=by
     simp only[Array.size_append,List.size_toArray,size_zeroCells,hzs,hl1',hl2'];omega
    have htk:(cells1.toArray++cells2.toArray++Builtin.zeroCells z0.cells (cap' - (xs.length+ys.length))).toList.take ((xs.length+ys.length) * 2)=cells1++cells2:=by
     simp only[Array.toList_append,List.append_assoc]
     rw[←List.append_assoc,List.take_append_of_le_length (by rw[List.length_append];omega),List.take_of_length_le (by rw[List.length_append];omega)]
    generalize cells1.toArray++cells2.toArray++Builtin.zeroCells z0.cells (cap' - (xs.length+ys.length))=cs at hr hcss htk
    have h1a:(∃ b,ad1=some ⟨b,0,none⟩)∨(xs.length=0∧cap1=0):=by
     rcases hown1 0 _ rfl with hc0 | ⟨b1,cs1,rfl,_⟩
     ·exact .inr ⟨by omega,hc0⟩
     ·exact .inl ⟨b1,rfl⟩
    refine (qbnh ad1 xs.length cap1 ys.length (some ⟨b2,0,none⟩) cap2 w _ _ hm hlc1 h1a hr).mono ?_
    rintro e w' ⟨rfl,rfl⟩
    obtain ⟨val,Pr',Gs,Os,us,hv,hp⟩:=qwc (w2:=w.drew.alloc (.cells cs 42)) pre elz hFs (B:=w.heap.size) (cs:=cs) qbk.new (cap:=cap') (by rw[hw1,hcss];exact Nat.le_refl _) (by rw[hlz];exact hge) (by rw[hw1,hlz];exact htk) (.inl rfl)
     (fun t hb=>by obtain ⟨k,hk⟩:=hFs t _ hb;exact Nat.lt_irrefl _ (pre.lim k _ hk)) (fun b' hb1 _=>qh7 b' hb1) (by show w.heap.size≤(w.heap.push _).size;simp) (by show w.heap.size<(w.heap.push _).size;simp) rfl rfl rfl () (houts _ _ _ _)
    exact ⟨val,Pr',Gs,Os,us,by rw[←hv,hlz],hp⟩
  ·have hlt:i<xs.length:=by omega
   rcases hown1 0 _ rfl with hc0 | ⟨b1,cs1,rfl,hbF1,hbo1,hcapb1,hFb1,hcells1⟩
   ·exact absurd hc0 (by omega)
   replace hcapb1:cap1 * 2≤cs1.size:=by rw[hw1] at hcapb1;exact hcapb1
   replace hcells1:cells1=sub cs1 0 (xs.length * 2):=by rw[hcells1,hw1]
   have hb12:b2≠b1:=fun e=>pre.dis 0 2 (by decide) b1 hbF1 (e ▸ hbF2)
   have hcd:cells1.drop (i * 2)=sub cs1 (i * 2) ((xs.length - i) * 2):=by
    rw[hcells1]
    simp only[sub,List.drop_zero,List.drop_take]
    congr 1;omega
   have hct:cells1.take (i * 2)=cs1.toList.take (i * 2):=by
    rw[hcells1]
    simp only[sub,List.drop_zero,List.take_take]
    congr 1;omega
   have hdl:(cells1.drop (i * 2)).length=(xs.length - i) * 2:=by rw[List.length_drop,hl1'];omega
   have honed:∀ u∈cells1.drop (i * 2),u.oneCell'=true:=fun u hu=>hone1 u (List.mem_of_mem_drop hu)
   have hFBb:∀ t,¬ FF t b1:=fun t hb=>by
    rcases hFF t b1 hb with ⟨c,hc⟩ | ⟨c,hc⟩
    ·exact hFb1 c hc
    ·exact pre.dis 0 2 (by decide) b1 hbF1 (hF2 c b1 hc)
   by_cases hroom:xs.length+ys.length≤cap1
   ·have hov:∀ lb cb,(callFunc 156 #[.slice (some ⟨b2,0,none⟩) ys.length cap2,.slice (some ⟨b1,(i+ys.length) * 2,none⟩) lb cb]).run Tryz.prog w=.ok (.value (.bool false)) w:=by
     intro lb cb
     obtain ⟨e2,lo2,hi2,he2,hf2⟩:=hbo2
     obtain ⟨e1,lo1,hi1,he1,hf1⟩:=hbo1
     have hnf:∀ k,k≤cs2.size→w.frozen? ⟨b2,k,none⟩=false:=fun k hk=>by
      have:=hf2 k hk
      simp only[World.frozen?,he2]
      simpa using this
     rw[run_callFunc_extern (P:=Tryz.prog) (f:=156) (fn:=Tryz.f156) Tryz.func156 (by kernel_rfl) (by kernel_rfl) (by kernel_rfl) (e:=Extern.SlicesOverlaps.overlaps #[35,35] #[4]) (by kernel_rfl),
      Lib.run_overlaps_apart w 35 4 42 uT 2 (fun w=>by simp[sizeOf,typeInfo,hi0,hs0]) ⟨b2,0,none⟩ ⟨b1,(i+ys.length) * 2,none⟩ ys.length cap2 lb cb hb12 e2 e1 cs2.size cs1.size (by simp[World.shape?,he2]) (by simp[World.shape?,he1]) (by omega) (hnf 0 (by omega)) (hnf _ (Nat.le_refl _))]
     rfl
    have hfitA:(i+ys.length) * 2+(cells1.drop (i * 2)).length≤cs1.size:=by rw[hdl];omega
    have thA:=qfc (w:=w) (o:=(i+ys.length) * 2) (n:=(cells1.drop (i * 2)).length) hbo1 hfitA
    have hB:∀ ty dc sc,(Builtin.copy_ #[35,35] ty #[.slice (some ⟨b1,(i+ys.length) * 2,none⟩) (xs.length+ys.length - (i+ys.length)) dc,.slice (some ⟨b1,i * 2,none⟩) (xs.length+ys.length - i) sc]).run Tryz.prog w.drew=.ok (goInt (Nat.min (xs.length+ys.length - i) (xs.length+ys.length - (i+ys.length)))) (w.drew.setCells b1 ((i+ys.length) * 2) (cells1.drop (i * 2))):=fun ty dc sc=>
     qu5 w.drew 35 35 ty 42 b1 ((i+ys.length) * 2) _ dc ⟨b1,i * 2,none⟩ _ sc (cells1.drop (i * 2)) uT hi0 (by rw[hdl,hs0];simp only[Nat.min_def];split<;>omega)
      (fun k v hk=>by rw[Addr.add_mid];exact qdr (w:=w) (b:=b1) (o:=i * 2) (cs:=cells1.drop (i * 2)) (by rw[hcd];exact qb1 hbo1.blk (by omega)) k v hk) (fun k hk=>(thA k hk).1) (fun k hk=>(thA k hk).2) honed
    obtain ⟨ty,lo,hi',he,hfz⟩:=hbo1
    obtain ⟨cs3,hcs3,hcs3l⟩:=qdv (cells1.drop (i * 2)) ((i+ys.length) * 2) w.drew cs1 he hfitA
    have hsz3:cs3.size=cs1.size:=by rw[←Array.length_toList,hcs3l,qcq (by simpa using hfitA),Array.length_toList]
    have hob3:qbk (w.drew.setCells b1 ((i+ys.length) * 2) (cells1.drop (i * 2))).heap b1 cs3:=⟨ty,lo,hi',hcs3,fun t ht=>hfz t (by omega)⟩
    have hfitB:i * 2+cells2.length≤cs3.size:=by omega
    have thB:=qfc (w:=w.drew.setCells b1 ((i+ys.length) * 2) (cells1.drop (i * 2))) (o:=i * 2) (n:=cells2.length) hob3 hfitB
    have hr2:(w.drew.setCells b1 ((i+ys.length) * 2) (cells1.drop (i * 2))).rangeAt b2 0 cells2:=by
     rw[hcells2]
     exact qb1 (Blk.congr hbo2.blk (qbl (cells1.drop (i * 2)) _ w.drew b2 hb12)) (by omega)
    have hC:∀ ty dc,(Builtin.copy_ #[35,35] ty #[.slice (some ⟨b1,i * 2,none⟩) (xs.length+ys.length - i) dc,.slice (some ⟨b2,0,none⟩) ys.length cap2]).run Tryz.prog (w.drew.setCells b1 ((i+ys.length) * 2) (cells1.drop (i * 2)))=.ok (goInt (Nat.min ys.length (xs.length+ys.length - i))) ((w.drew.setCells b1 ((i+ys.length) * 2) (cells1.drop (i * 2))).setCells b1 (i * 2) cells2):=fun ty dc=>
     qu5 _ 35 35 ty 42 b1 (i * 2) _ dc ⟨b2,0,none⟩ _ cap2 cells2 uT hi0 (by rw[hl2',hs0];simp only[Nat.min_def];split<;>omega)
      (fun k v hk=>by rw[Addr.add_mid];exact hr2 k v hk) (fun k hk=>(thB k hk).1) (fun k hk=>(thB k hk).2) hone2
    obtain ⟨cs4,hcs4,hcs4l⟩:=qdv cells2 (i * 2) _ cs3 hcs3 hfitB
    have hsz4:cs4.size=cs3.size:=by rw[←Array.length_toList,hcs4l,qcq (by simpa using hfitB),Array.length_toList]
    have hob4:qbk ((w.drew.setCells b1 ((i+ys.length) * 2) (cells1.drop (i * 2))).setCells b1 (i * 2) cells2).heap b1 cs4:=⟨ty,lo,hi',hcs4,fun t ht=>hfz t (by omega)⟩
    have h7:cs1.toList.length=cs1.size:=Array.length_toList
    have htake:cs4.toList.take ((xs.take i++ys++xs.drop i).length * TWay.width)=cells1.take (i * 2)++cells2++cells1.drop (i * 2):=by
     have e:=qbui (l:=cs1.toList) (D:=cells1.drop (i * 2)) (C:=cells2) (i:=i * 2) (m:=ys.length * 2) hl2' (by rw[h7,←Nat.add_mul];exact hfitA)
     rw[hw1,hlz,hcs4l,hcs3l,hct,Nat.add_mul i]
     rw[show (xs.length+ys.length) * 2=i * 2+ys.length * 2+(cells1.drop (i * 2)).length by rw[hdl];omega]
     exact e
    have hrest1:=qcp (b:=b1) (cells1.drop (i * 2)) ((i+ys.length) * 2) w.drew
    have hrest2:=qcp (b:=b1) cells2 (i * 2) (w.drew.setCells b1 ((i+ys.length) * 2) (cells1.drop (i * 2)))
    have hsize:((w.drew.setCells b1 ((i+ys.length) * 2) (cells1.drop (i * 2))).setCells b1 (i * 2) cells2).heap.size=w.heap.size:=by rw[qbb,qbb];rfl
    refine (qbqi b1 xs.length cap1 i ys.length ⟨b2,0,none⟩ cap2 w _ _ _ _ hlt hm hroom (by omega) hov hB hC).mono ?_
    rintro e w' ⟨rfl,rfl⟩
    obtain ⟨val,Pr',Gs,Os,us,hv,hp⟩:=qwc pre elz hFs hob4 (cap:=cap1) (by rw[hw1];omega) (by rw[hlz];exact hroom) htake (.inr ⟨0,hbF1⟩) hFBb
     (fun b' _ hb'=>(qbl cells2 _ _ b' hb').trans (qbl (cells1.drop (i * 2)) _ w.drew b' hb')) (by rw[hsize];exact Nat.le_refl _) (by rw[hsize];exact pre.lim 0 b1 hbF1) (hrest2.1.trans hrest1.1) (hrest2.2.1.trans hrest1.2.1) (hrest2.2.2.trans hrest1.2.2) () (houts _ _ _ _)
    exact ⟨val,Pr',Gs,Os,us,by rw[←hv,hlz],hp⟩
   ·have hg:cap1<xs.length+ys.length:=by omega
    obtain ⟨K,hK⟩:∃ K,K=xs.length+ys.length - i:=⟨_,rfl⟩
    have hKi:i+K=xs.length+ys.length:=by omega
    have hn1d:(Builtin.firstCells i0.size i (.slice (some ⟨b1,0,none⟩) i cap1)).run Tryz.prog w.drew=.ok (cells1.take (i * 2)).toArray w.drew:=by
     rw[hs0]
     refine qhb (by rw[List.length_take,hl1'];omega) (.inr ⟨b1,0,rfl,qdr ?_⟩)
     have e:cells1.take (i * 2)=sub cs1 0 (i * 2):=by rw[hct];simp only[sub,List.drop_zero]
     rw[e];exact qb1 hbo1.blk (by omega)
    have hfit:Builtin.nextslicecap (i+K) cap1 * i0.bytes≤281474976710656:=by
     have:=Room.nextslicecap_le' (need:=i+K) (old:=cap1) (by omega)
     rw[hb0];omega
    have hr:=fun ty=>Lib.run_append_grow_zeros (P:=Tryz.prog) w 35 3 ty 42 i0 _ .i64 .i64 uT u3 hi0 hz0 (some ⟨b1,0,none⟩) i cap1 (cells1.take (i * 2)) hn1d K (by omega) (by omega) (by omega) (by omega) (by rw[hb0];omega) hfit
    have hge:=grownCap_ge w (i+K) cap1 42
    generalize grownCap w (i+K) cap1 42=cap' at hr hge
    have hcss:((cells1.take (i * 2)).toArray++Builtin.zeroCells z0.cells K++Builtin.zeroCells z0.cells (cap' - (i+K))).size=cap' * 2:=by
     simp only[Array.size_append,List.size_toArray,size_zeroCells,hzs,List.length_take,hl1'];omega
    have htk:((cells1.take (i * 2)).toArray++Builtin.zeroCells z0.cells K++Builtin.zeroCells z0.cells (cap' - (i+K))).toList.take (i * 2)=cells1.take (i * 2):=by
     simp only[Array.toList_append,List.append_assoc]
     rw[List.take_append_of_le_length (by rw[List.length_take,hl1'];omega),List.take_of_length_le (by rw[List.length_take,hl1'];omega)]
    generalize (cells1.take (i * 2)).toArray++Builtin.zeroCells z0.cells K++Builtin.zeroCells z0.cells (cap' - (i+K))=cs0 at hr hcss htk
    rw[hKi] at hr hge
    have hKI:((K:Nat):Int)=(xs.length:Int)+(ys.length:Int) - (i:Int):=by omega
    rw[hKI] at hr
    have hob0:qbk (w.drew.alloc (.cells cs0 42)).heap w.heap.size cs0:=qbk.new
    have hb1lt:=pre.lim 0 b1 hbF1
    have hb2lt:=pre.lim 2 b2 hbF2
    have hb1B:b1≠w.heap.size:=by omega
    have hb2B:b2≠w.heap.size:=by omega
    have hold:∀ b',b'<w.heap.size→(w.drew.alloc (.cells cs0 42)).heap[b']? = w.heap[b']?:=fun b' hb'=>qh7 b' hb'
    have hfitA:i * 2+cells2.length≤cs0.size:=by omega
    have thA:=qfc (w:=w.drew.alloc (.cells cs0 42)) (o:=i * 2) (n:=cells2.length) hob0 hfitA
    have hr2:(w.drew.alloc (.cells cs0 42)).rangeAt b2 0 cells2:=by
     rw[hcells2]
     exact qb1 (Blk.congr hbo2.blk (hold b2 hb2lt)) (by omega)
    have hB:∀ ty,(Builtin.copy_ #[35,35] ty #[.slice (some ⟨w.heap.size,i * 2,none⟩) (xs.length+ys.length - i) (cap' - i),.slice (some ⟨b2,0,none⟩) ys.length cap2]).run Tryz.prog (w.drew.alloc (.cells cs0 42))=.ok (goInt (Nat.min ys.length (xs.length+ys.length - i))) ((w.drew.alloc (.cells cs0 42)).setCells w.heap.size (i * 2) cells2):=fun ty=>
     qu5 _ 35 35 ty 42 w.heap.size (i * 2) _ _ ⟨b2,0,none⟩ _ cap2 cells2 uT hi0 (by rw[hl2',hs0];simp only[Nat.min_def];split<;>omega)
      (fun k v hk=>by rw[Addr.add_mid];exact hr2 k v hk) (fun k hk=>(thA k hk).1) (fun k hk=>(thA k hk).2) hone2
    obtain ⟨ty,lo,hi',he,hfz⟩:=hob0
    obtain ⟨cs3,hcs3,hcs3l⟩:=qdv cells2 (i * 2) (w.drew.alloc (.cells cs0 42)) cs0 he hfitA
    have h7:cs0.toList.length=cs0.size:=Array.length_toList
    have hsz3:cs3.size=cs0.size:=by rw[←Array.length_toList,hcs3l,qcq (by simpa using hfitA),Array.length_toList]
    have hob3:qbk ((w.drew.alloc (.cells cs0 42)).setCells w.heap.size (i * 2) cells2).drew.heap w.heap.size cs3:=⟨ty,lo,hi',hcs3,fun t ht=>hfz t (by omega)⟩
    have hfitB:(i+ys.length) * 2+(cells1.drop (i * 2)).length≤cs3.size:=by rw[hdl];omega
    have thB:=qfc (w:=((w.drew.alloc (.cells cs0 42)).setCells w.heap.size (i * 2) cells2).drew) (o:=(i+ys.length) * 2) (n:=(cells1.drop (i * 2)).length) hob3 hfitB
    have hr1:((w.drew.alloc (.cells cs0 42)).setCells w.heap.size (i * 2) cells2).drew.rangeAt b1 (i * 2) (cells1.drop (i * 2)):=by
     rw[hcd]
     exact qdr (qb1 (Blk.congr hbo1.blk ((qbl cells2 _ _ b1 hb1B).trans (hold b1 hb1lt))) (by omega))
    have hC:∀ ty,(Builtin.copy_ #[35,35] ty #[.slice (some ⟨w.heap.size,(i+ys.length) * 2,none⟩) (xs.length+ys.length - (i+ys.length)) (cap' - (i+ys.length)),.slice (some ⟨b1,i * 2,none⟩) (xs.length - i) (cap1 - i)]).run Tryz.prog ((w.drew.alloc (.cells cs0 42)).setCells w.heap.size (i * 2) cells2).drew=.ok (goInt (Nat.min (xs.length - i) (xs.length+ys.length - (i+ys.length)))) (((w.drew.alloc (.cells cs0 42)).setCells w.heap.size (i * 2) cells2).drew.setCells w.heap.size ((i+ys.length) * 2) (cells1.drop (i * 2))):=fun ty=>
     qu5 _ 35 35 ty 42 w.heap.size ((i+ys.length) * 2) _ _ ⟨b1,i * 2,none⟩ _ _ (cells1.drop (i * 2)) uT hi0 (by rw[hdl,hs0];simp only[Nat.min_def];split<;>omega)
      (fun k v hk=>by rw[Addr.add_mid];exact hr1 k v hk) (fun k hk=>(thB k hk).1) (fun k hk=>(thB k hk).2) honed
    obtain ⟨cs4,hcs4,hcs4l⟩:=qdv (cells1.drop (i * 2)) ((i+ys.length) * 2) ((w.drew.alloc (.cells cs0 42)).setCells w.heap.size (i * 2) cells2).drew cs3 hcs3 hfitB
    have hsz4:cs4.size=cs3.size:=by rw[←Array.length_toList,hcs4l,qcq (by simpa using hfitB),Array.length_toList]
    have hob4:qbk (((w.drew.alloc (.cells cs0 42)).setCells w.heap.size (i * 2) cells2).drew.setCells w.heap.size ((i+ys.length) * 2) (cells1.drop (i * 2))).heap w.heap.size cs4:=⟨ty,lo,hi',hcs4,fun t ht=>hfz t (by omega)⟩
    have htake:cs4.toList.take ((xs.take i++ys++xs.drop i).length * TWay.width)=cells1.take (i * 2)++cells2++cells1.drop (i * 2):=by
     have e:=qbup (l:=cs0.toList) (D:=cells1.drop (i * 2)) (C:=cells2) (i:=i * 2) (m:=ys.length * 2) hl2' (by rw[h7];omega)
     rw[hw1,hlz,hcs4l,hcs3l,←htk,Nat.add_mul i]
     rw[show (xs.length+ys.length) * 2=i * 2+ys.length * 2+(cells1.drop (i * 2)).length by rw[hdl];omega]
     exact e
    have hrest1:=qcp (b:=w.heap.size) cells2 (i * 2) (w.drew.alloc (.cells cs0 42))
    have hrest2:=qcp (b:=w.heap.size) (cells1.drop (i * 2)) ((i+ys.length) * 2) ((w.drew.alloc (.cells cs0 42)).setCells w.heap.size (i * 2) cells2).drew
    have hsize:(((w.drew.alloc (.cells cs0 42)).setCells w.heap.size (i * 2) cells2).drew.setCells w.heap.size ((i+ys.length) * 2) (cells1.drop (i * 2))).heap.size=w.heap.size+1:=by
     rw[qbb]
     show ((w.drew.alloc (.cells cs0 42)).setCells w.heap.size (i * 2) cells2).heap.size=_
     rw[qbb];show (w.heap.push _).size=_;simp
    refine (qbsc b1 xs.length cap1 i ys.length ⟨b2,0,none⟩ cap2 w.heap.size cap' w _ _ _ _ _ hlt hm hlc1 hg hge (by omega) hr hB hC).mono ?_
    rintro e w' ⟨rfl,rfl⟩
    obtain ⟨val,Pr',Gs,Os,us,hv,hp⟩:=qwc pre elz hFs hob4 (cap:=cap') (by rw[hw1];omega) (by rw[hlz];exact hge) htake (.inl rfl)
     (fun t hb=>by obtain ⟨k,hk⟩:=hFs t _ hb;exact Nat.lt_irrefl _ (pre.lim k _ hk))
     (fun b' hb1 hb'=>(qbl (cells1.drop (i * 2)) _ _ b' hb').trans ((qbl cells2 _ _ b' hb').trans (hold b' hb1))) (by rw[hsize];omega) (by rw[hsize];omega) (hrest2.1.trans hrest1.1) (hrest2.2.1.trans hrest1.2.1) (hrest2.2.2.trans hrest1.2.2) () (houts _ _ _ _)
    exact ⟨val,Pr',Gs,Os,us,by rw[←hv,hlz],hp⟩
 ·simp at h
end Go.V

namespace Go.V
set_option maxRecDepth 100000
open Go Go.Proofs Go.RowKit
def insA (a:PDen SigI.params):Option (RDen SigI.res×ODen SigI.params):=(insD a.1 a.2.1 a.2.2.1).map fun r=>((r,()),())
def delA (a:PDen SigD.params):Option (RDen SigD.res×ODen SigD.params):=(delD a.1 a.2.1 a.2.2.1).map fun r=>((r,()),())
def qbhv (a:PDen SigW.params):Option (RDen SigW.res×ODen SigW.params):=(insW a.1 a.2.1 a.2.2.1).map fun r=>((r,()),())
def cmpA (a:PDen SigC.params):Option (RDen SigC.res×ODen SigC.params):=some ((scmp a.1 a.2.1,()),())
noncomputable def qw5:Den ctx:=fun g a=>
 if h:g=192 then qtr (f:=g) (by rw[h];exact sigC) cmpA a else
 if h:g=88 then qtr (f:=g) (by rw[h];exact sigI) insA a else
 if h:g=95 then qtr (f:=g) (by rw[h];exact sigD) delA a else
 if h:g=93 then qtr (f:=g) (by rw[h];exact sigW) qbhv a else
 none
theorem qbn3:qw5 192=qtr sigC cmpA:=by
 funext a
 simp only[qw5,dif_pos]
theorem qbm8:qw5 88=qtr sigI insA:=by
 funext a
 simp only[qw5,dif_pos,dif_neg (show ¬ (88:Nat)=192 by decide)]
theorem qbmv:qw5 95=qtr sigD delA:=by
 funext a
 simp only[qw5,dif_pos,dif_neg (show ¬ (95:Nat)=192 by decide),dif_neg (show ¬ (95:Nat)=88 by decide)]
theorem qbn7:qw5 93=qtr sigW qbhv:=by
 funext a
 simp only[qw5,dif_pos,dif_neg (show ¬ (93:Nat)=192 by decide),dif_neg (show ¬ (93:Nat)=88 by decide),dif_neg (show ¬ (93:Nat)=95 by decide)]
def qbhy (f:FuncId):Bool:=f.beq 192||f.beq 88||f.beq 95||f.beq 93
theorem qbol {f:FuncId} (h:qbhy f=true):f=192∨f=88∨f=95∨f=93:=by
 simp only[qbhy,Bool.or_eq_true] at h
 rcases h with ((h1 | h2) | h3) | h4
 ·exact .inl (Nat.eq_of_beq_eq_true h1)
 ·exact .inr (.inl (Nat.eq_of_beq_eq_true h2))
 ·exact .inr (.inr (.inl (Nat.eq_of_beq_eq_true h3)))
 ·exact .inr (.inr (.inr (Nat.eq_of_beq_eq_true h4)))
theorem qbwb:qni Tryz.prog 88:=⟨Tryz.f88,Tryz.func88,by decide +kernel,rfl⟩
theorem qbwd:qni Tryz.prog 95:=⟨Tryz.f95,Tryz.func95,by decide +kernel,rfl⟩
theorem qbv4:qni Tryz.prog 93:=⟨Tryz.f93,Tryz.func93,by decide +kernel,rfl⟩
noncomputable def qoo:Ext where
 den:=qw5
 is:=qbhy
 ok:=fun f hf=>by
  rcases qbol hf with rfl | rfl | rfl | rfl
  ·exact qbce sigC qbn3 qbwc
  ·exact qbce sigI qbm8 qbv3
  ·exact qbce sigD qbmv qbwe
  ·exact qbce sigW qbn7 qbu2
 call:=fun f a r hf _=>by
  rcases qbol hf with rfl | rfl | rfl | rfl
  ·exact qbm5
  ·exact qbwb
  ·exact qbwd
  ·exact qbv4
theorem qbwr (a b:ByteArray):qtr sigC cmpA (a,b,())=cmpA (a,b,()):=by kernel_rfl
theorem qbvy (n:Nat) (a b:ByteArray):DD qoo (n+1) 192 (a,b,())=cmpA (a,b,()):=
 (qbhj qoo (g:=192) rfl n (a,b,())).trans ((congrFun qbn3 (a,b,())).trans (qbwr a b))
theorem qbwi (xs:List TRow.den) (i:Int) (ys:List TRow.den):qtr sigI insA (xs,i,ys,())=insA (xs,i,ys,()):=by kernel_rfl
theorem qbvi (n:Nat) (xs:List TRow.den) (i:Int) (ys:List TRow.den):DD qoo (n+1) 88 (xs,i,ys,())=insA (xs,i,ys,()):=
 (qbhj qoo (g:=88) rfl n (xs,i,ys,())).trans ((congrFun qbm8 (xs,i,ys,())).trans (qbwi xs i ys))
theorem qbwj (xs:List TRow.den) (i j:Int):qtr sigD delA (xs,i,j,())=delA (xs,i,j,()):=by kernel_rfl
theorem qbvv (n:Nat) (xs:List TRow.den) (i j:Int):DD qoo (n+1) 95 (xs,i,j,())=delA (xs,i,j,()):=
 (qbhj qoo (g:=95) rfl n (xs,i,j,())).trans ((congrFun qbmv (xs,i,j,())).trans (qbwj xs i j))
theorem qbwn (xs:List TWay.den) (i:Int) (ys:List TWay.den):qtr sigW qbhv (xs,i,ys,())=qbhv (xs,i,ys,()):=by kernel_rfl
theorem qbpi (n:Nat) (xs:List TWay.den) (i:Int) (ys:List TWay.den):DD qoo (n+1) 93 (xs,i,ys,())=qbhv (xs,i,ys,()):=
 (qbhj qoo (g:=93) rfl n (xs,i,ys,())).trans ((congrFun qbn7 (xs,i,ys,())).trans (qbwn xs i ys))
theorem qbug {k:Nat} (h192:Nat.beq k 192=false) (h88:Nat.beq k 88=false) (h95:Nat.beq k 95=false) (h93:Nat.beq k 93=false):qbhy k=false:=by
 simp only[qbhy,Bool.or_eq_false_iff]
 exact ⟨⟨⟨h192,h88⟩,h95⟩,h93⟩
end Go.V

namespace Go.G
set_option maxRecDepth 100000
open Go Go.V Go.Proofs
structure XI (X:Ext):Prop extends XC X where
 ins:∀ n xs i ys,qfr (DD X (n+1)) xs i ys=(insD xs i ys).map fun r=>((r,()),())
 del:∀ n xs i j,qjt (DD X (n+1)) xs i j=(delD xs i j).map fun r=>((r,()),())
 way:∀ n xs i ys,qb8 (DD X (n+1)) xs i ys=(insW xs i ys).map fun r=>((r,()),())
theorem qbr1:XI qoo where
 ok:=fun k h=>by
  simp only[Bool.or_eq_false_iff] at h
  obtain ⟨⟨⟨a,b⟩,c⟩,d⟩:=h
  exact qbug (by assumption) (by assumption) (by assumption) (by assumption)
 cmp:=qbvy
 ins:=fun n xs i ys=>qbvi n xs i ys
 del:=fun n xs i j=>qbvv n xs i j
 way:=fun n xs i ys=>qbpi n xs i ys
theorem qbjc (a:Rel):(((a.1.1,a.1.2.1,a.1.2.2.1,()),a.2.1,()):Rel)=a:=rfl
theorem qbp0 (a:q8):((a.1,a.2.1,a.2.2.1,()):q8)=a:=rfl
theorem qbte (D:Den ctx) (r:Rel) (row x:Row):qbe ctx D (Clo.mk 85 [CapV.rptr (Ty.pair (Ty.pair (Ty.sl (Ty.pair Ty.str (Ty.pair (Ty.int IntKind.i64) (Ty.pair Ty.bool Ty.unit)))) (Ty.pair (Ty.sl (Ty.int IntKind.i64)) (Ty.pair (Ty.sl (Ty.pair Ty.str (Ty.pair (Ty.sl (Ty.int IntKind.i64)) (Ty.pair Ty.bool Ty.unit)))) Ty.unit))) (Ty.pair (Ty.sl (Ty.sl (Ty.pair (Ty.int IntKind.i64) (Ty.pair (Ty.int IntKind.i64) (Ty.pair Ty.str Ty.unit))))) Ty.unit)) r,CapV.rptr (Ty.sl (Ty.pair (Ty.int IntKind.i64) (Ty.pair (Ty.int IntKind.i64) (Ty.pair Ty.str Ty.unit)))) row]) [CapV.val (Ty.sl (Ty.pair (Ty.int IntKind.i64) (Ty.pair (Ty.int IntKind.i64) (Ty.pair Ty.str Ty.unit)))) x] Ty.bool=(q5d D x r row).bind fun q=>some q.1.1:=by kernel_rfl
theorem qbs2 (D:Den ctx) (r:Rel) (key x:Row):qbe ctx D (Clo.mk 87 [CapV.rptr (Ty.sl (Ty.pair (Ty.int IntKind.i64) (Ty.pair (Ty.int IntKind.i64) (Ty.pair Ty.str Ty.unit)))) key,CapV.rptr (Ty.pair (Ty.pair (Ty.sl (Ty.pair Ty.str (Ty.pair (Ty.int IntKind.i64) (Ty.pair Ty.bool Ty.unit)))) (Ty.pair (Ty.sl (Ty.int IntKind.i64)) (Ty.pair (Ty.sl (Ty.pair Ty.str (Ty.pair (Ty.sl (Ty.int IntKind.i64)) (Ty.pair Ty.bool Ty.unit)))) Ty.unit))) (Ty.pair (Ty.sl (Ty.sl (Ty.pair (Ty.int IntKind.i64) (Ty.pair (Ty.int IntKind.i64) (Ty.pair Ty.str Ty.unit))))) Ty.unit)) r]) [CapV.val (Ty.sl (Ty.pair (Ty.int IntKind.i64) (Ty.pair (Ty.int IntKind.i64) (Ty.pair Ty.str Ty.unit)))) x] Ty.bool=(q4z D x key r).bind fun q=>some q.1.1:=by kernel_rfl
theorem qbp3 {r:Rel} {key:Row} (hk:∀ x∈r.2.1,qj x r.1.2.1≠key):(match qw (fun i=>tlt key (qj (r.2.1.getD i []) r.1.2.1)) 0 r.2.1.length with | some j=>j | none=>r.2.1.length)=qdz r key:=by
 have e:qw (fun i=>tlt key (qj (r.2.1.getD i []) r.1.2.1)) 0 r.2.1.length=qw (fun i=>!tlt (qj (r.2.1.getD i []) r.1.2.1) key) 0 r.2.1.length:=by
  refine qwy fun i _ hi=>?_
  have hi:i<r.2.1.length:=by omega
  show tlt key (qj (r.2.1.getD i []) r.1.2.1)=!tlt (qj (r.2.1.getD i []) r.1.2.1) key
  rcases qbbn key (qj (r.2.1.getD i []) r.1.2.1) with h | h | h
  ·rw[h,qbk9 h];rfl
  ·exact absurd h.symm (hk _ (qbp hi))
  ·rw[h,qbk9 h];rfl
 refine (congrArg (fun z:Option Nat=>match z with | some j=>j | none=>r.2.1.length) e).trans ?_
 unfold qdz
 generalize qw (fun i=>!tlt (qj (r.2.1.getD i []) r.1.2.1) key) 0 r.2.1.length=z
 cases z with
 | some j=>exact rfl
 | none=>exact rfl
theorem qbdu {r:Rel} {row:Row} (hok:qcl r=true) (hrow:qey r.1 row=true) (hk:qfb r (qj row r.1.2.1)=none) (ho:others r row (-1)=false) (hl:¬ (r.2.1.length:Int)≥12):qcv r row=(put r row,0):=by
 unfold qcv
 rw[if_pos ⟨hok,hrow⟩,hk]
 dsimp only
 rw[ho,if_neg Bool.noConfusion,if_neg hl]
 rfl
theorem qbn5 {X:Ext} (hX:XI X) {n:Nat} (hn:W+12≤n) (r:Rel) (hr:RelSm r) (row:Row) (hw:row.length≤M):q1a (DD X n) r row=some (((qcv r row).1,(qcv r row).2,()),()):=by
 obtain ⟨n,rfl⟩:∃ k,n=k+2:=⟨n - 2,by omega⟩
 have hM:=qbt
 have hb:=qcm
 have hd:=qb0
 have hW:=qb2
 have h2:=hr.rows
 have hkl:=hr.sch.key
 rw[qblh hX.ok]
 simp only[q1q,q86]
 have e1:=qz2 hX.ok (n:=n+1) (by omega) r hr
 have e2:=qqp hX.toXC (n:=n+1) (by omega) r hr
 have e3:=qz9 hX.ok (n:=n+1) (by omega) r.1 hr.sch row hw
 have e4:=qgh hX.ok (n:=n+1) (by omega) r.1 row hw hkl
 have e5:=qbch hX.ok (n:=n+1) (by omega) r hr (qj row r.1.2.1)
 rw[e1,qf]
 dsimp only
 simp only[qbjc,qbp0]
 rw[e4,qf]
 dsimp only
 rw[e2,qf]
 dsimp only
 have hins:qcv r row=qcv r row:=rfl
 cases hok:qcl r
 ·have:qcv r row=(r,1):=by unfold qcv;rw[if_neg (fun h=>by rw[hok] at h;cases h.1)]
  rw[this];rfl
 ·rw[Bool.not_true,br_f,e3,qf]
  dsimp only
  cases hrow:qey r.1 row
  ·have:qcv r row=(r,1):=by unfold qcv;rw[if_neg (fun h=>by rw[hrow] at h;cases h.2)]
   rw[this];rfl
  ·rw[Bool.not_true,br_f,e5,qf]
   dsimp only
   cases hk:qfb r (qj row r.1.2.1) with
   | some j=>
    have:qcv r row=(r,2):=by unfold qcv;rw[if_pos ⟨hok,hrow⟩,hk]
    dsimp only
    rw[this,qm (show (j:Int)≥0 by omega)]
   | none=>
    dsimp only
    rw[qn (by decide)]
    have e6:=qble hX.ok (n:=n+1) (by omega) r.2.1 (by omega) (Clo.mk 85 [CapV.rptr (Ty.pair (Ty.pair (Ty.sl (Ty.pair Ty.str (Ty.pair (Ty.int IntKind.i64) (Ty.pair Ty.bool Ty.unit)))) (Ty.pair (Ty.sl (Ty.int IntKind.i64)) (Ty.pair (Ty.sl (Ty.pair Ty.str (Ty.pair (Ty.sl (Ty.int IntKind.i64)) (Ty.pair Ty.bool Ty.unit)))) Ty.unit))) (Ty.pair (Ty.sl (Ty.sl (Ty.pair (Ty.int IntKind.i64) (Ty.pair (Ty.int IntKind.i64) (Ty.pair Ty.str Ty.unit))))) Ty.unit)) r,CapV.rptr (Ty.sl (Ty.pair (Ty.int IntKind.i64) (Ty.pair (Ty.int IntKind.i64) (Ty.pair Ty.str Ty.unit)))) row]) (fun k=>!decide ((k:Int) = -1)&&qj1 r.1 (r.2.1.getD k []) row) (fun k hk2=>by
     obtain ⟨n,rfl⟩:∃ k,n=k+2:=⟨n - 2,by omega⟩
     rw[qbte,show n+2+1 - 2=n+1 from rfl,qbh4 hX.ok]
     simp only[qw4,q5f]
     rw[q5w hX.ok (by omega) r.1 hr.sch row _ hw (hr.row _ (qbp hk2)) (qxb hrow),qf,qpq,decide_eq_false (show ¬ (k:Int) = -1 by omega)]
     rfl)
    rw[e6,qf]
    dsimp only
    cases ho:others r row (-1)
    ·have ho2:qt (fun k=>!decide ((k:Int) = -1)&&qj1 r.1 (r.2.1.getD k []) row) 0 r.2.1.length=false:=ho
     rw[ho2,br_f]
     have h12:r.2.1.length≤12:=((qmz r).1 hok).2.1
     by_cases hl:(r.2.1.length:Int)=12
     ·have:qcv r row=(r,5):=by
       unfold qcv
       rw[if_pos ⟨hok,hrow⟩,hk]
       dsimp only
       rw[ho,if_neg Bool.noConfusion,if_pos (by omega)]
      rw[qm hl,this]
     ·rw[qn hl,qbdu hok hrow hk ho (by omega)]
      have hkn:=qbhb hk
      have hle:=qba8 r (qj row r.1.2.1)
      have hpl:=qbp3 hkn
      have e7:=qbet hX.ok (n:=n+1) (by omega) r.2.1 (by omega) (Clo.mk 87 [CapV.rptr (Ty.sl (Ty.pair (Ty.int IntKind.i64) (Ty.pair (Ty.int IntKind.i64) (Ty.pair Ty.str Ty.unit)))) (qj row r.1.2.1),CapV.rptr (Ty.pair (Ty.pair (Ty.sl (Ty.pair Ty.str (Ty.pair (Ty.int IntKind.i64) (Ty.pair Ty.bool Ty.unit)))) (Ty.pair (Ty.sl (Ty.int IntKind.i64)) (Ty.pair (Ty.sl (Ty.pair Ty.str (Ty.pair (Ty.sl (Ty.int IntKind.i64)) (Ty.pair Ty.bool Ty.unit)))) Ty.unit))) (Ty.pair (Ty.sl (Ty.sl (Ty.pair (Ty.int IntKind.i64) (Ty.pair (Ty.int IntKind.i64) (Ty.pair Ty.str Ty.unit))))) Ty.unit)) r]) (fun i=>tlt (qj row r.1.2.1) (qj (r.2.1.getD i []) r.1.2.1)) (fun i hi=>by
       have l1:=qeh row r.1.2.1
       obtain ⟨n,rfl⟩:∃ k,n=k+1:=⟨n - 1,by omega⟩
       rw[qbs2,show n+1+1 - 1=n+1 from rfl,qbhm hX.ok]
       simp only[qxm,q5m]
       rw[qgh hX.ok (by omega) r.1 _ (hr.row _ (qbp hi)) hkl,qf]
       dsimp only
       rw[q4y hX.toXC (by omega) _ _ (by omega),qf]
       rfl)
      rw[e7,qf]
      dsimp only
      have hput:∀ p:Nat,p=qdz r (qj row r.1.2.1)→insD r.2.1 (p:Int) [row]=some (put r row).2.1:=fun p hp=>by
       subst hp
       unfold insD
       rw[if_pos ⟨by omega,by omega,by simp,by simp;omega⟩,Int.toNat_natCast]
       rfl
      cases hf:qw (fun i=>tlt (qj row r.1.2.1) (qj (r.2.1.getD i []) r.1.2.1)) 0 r.2.1.length with
      | none=>
       rw[hf] at hpl
       dsimp only at hpl ⊢
       rw[qm (by decide),qw9 hX.ok (by omega) row (by omega),qf,hX.ins]
       dsimp only
       rw[hput _ hpl]
       rfl
      | some j=>
       rw[hf] at hpl
       dsimp only at hpl ⊢
       rw[qn (by omega),qw9 hX.ok (by omega) row (by omega),qf,hX.ins]
       dsimp only
       rw[hput _ hpl]
       rfl
    ·have ho2:qt (fun k=>!decide ((k:Int) = -1)&&qj1 r.1 (r.2.1.getD k []) row) 0 r.2.1.length=true:=ho
     have:qcv r row=(r,3):=by unfold qcv;rw[if_pos ⟨hok,hrow⟩,hk];dsimp only;rw[ho];rfl
     rw[ho2,br_t,this]
theorem qbmu {X:Ext} (hX:XI X) {n:Nat} (hn:W+12≤n) (r:Rel) (hr:RelSm r) (key:Row):qu3 (DD X n) r key=some (((qhj r key).1,(qhj r key).2,()),()):=by
 obtain ⟨n,rfl⟩:∃ k,n=k+2:=⟨n - 2,by omega⟩
 have hM:=qbt
 have hb:=qcm
 have hW:=qb2
 have h2:=hr.rows
 rw[qbl0 hX.ok]
 simp only[q1x,q9a]
 have e1:=qz2 hX.ok (n:=n+1) (by omega) r hr
 have e2:=qqp hX.toXC (n:=n+1) (by omega) r hr
 have e5:=qbch hX.ok (n:=n+1) (by omega) r hr key
 rw[e1,qf]
 dsimp only
 simp only[qbjc,qbp0]
 rw[e2,qf]
 dsimp only
 unfold qhj
 cases hok:qcl r
 ·rfl
 ·rw[Bool.not_true,br_f,e5,qf,if_pos rfl]
  dsimp only
  cases hk:qfb r key with
  | none=>rfl
  | some j=>
   have hj:=qsz hk
   dsimp only
   rw[qn (show ¬ (j:Int)<0 by omega),qp (by omega),hX.del]
   unfold delD
   rw[if_pos ⟨by omega,by omega,by omega,by omega⟩,Int.toNat_natCast,Int.toNat_natCast]
   rfl
end Go.G

namespace Go.G
set_option maxRecDepth 100000
open Go Go.V Go.Proofs
structure InvR (r:Rel):Prop where
 sch:SchSm r.1
 cols:r.1.1.length≤4
 rows:r.2.1.length≤12
 row:∀ x∈r.2.1,x.length≤5
theorem InvR.sm {r:Rel} (h:InvR r):RelSm r:=by
 have hM:=qbt
 obtain ⟨a,b,c,d⟩:=h
 exact ⟨a,by omega,fun x hx=>by have:=d x hx;omega⟩
theorem qbg2 {r:Rel} (h:InvR r) {row:Row} (hw:row.length≤5):InvR (qcv r row).1:=by
 unfold qcv
 split
 ·split
  ·exact h
  ·split
   ·exact h
   ·split
    ·exact h
    ·refine ⟨h.sch,h.cols,?_,fun x hx=>?_⟩
     ·have:=qba8 r (qj row r.1.2.1)
      simp only[List.length_append,List.length_take,List.length_drop,List.length_cons,List.length_nil];omega
     ·simp only[List.mem_append,List.mem_singleton] at hx
      rcases hx with (hx | rfl) | hx
      ·exact h.row x (List.mem_of_mem_take hx)
      ·exact hw
      ·exact h.row x (List.mem_of_mem_drop hx)
 ·exact h
theorem qbga {r:Rel} (h:InvR r) (key:Row):InvR (qhj r key).1:=by
 unfold qhj
 split
 ·split
  ·refine ⟨h.sch,h.cols,?_,fun x hx=>?_⟩
   ·have:=h.rows
    simp only[List.length_append,List.length_take,List.length_drop];omega
   ·simp only[List.mem_append] at hx
    rcases hx with hx | hx
    ·exact h.row x (List.mem_of_mem_take hx)
    ·exact h.row x (List.mem_of_mem_drop hx)
  ·exact h
 ·exact h
theorem qbej {r:Rel} (h:InvR r) {row:Row} (hw:row.length≤5):InvR (qgc r row).1:=by
 unfold qgc
 split
 ·split
  ·split
   ·exact h
   ·refine ⟨h.sch,h.cols,by simp only[List.length_set];exact h.rows,fun x hx=>?_⟩
    rcases List.mem_or_eq_of_mem_set hx with hx | rfl
    ·exact h.row x hx
    ·exact hw
  ·exact h
 ·exact h
theorem qbvz {s:q8} (h:DrawnS s):InvR (q32 s).1:=by
 unfold q32
 split
 ·exact ⟨h.sm,h.hi,Nat.zero_le _,(fun _ h=>nomatch h)⟩
 ·exact ⟨⟨Nat.zero_le _,(fun _ h=>nomatch h),Nat.zero_le _,Nat.zero_le _,(fun _ h=>nomatch h),(fun _ h=>nomatch h)⟩,Nat.zero_le _,Nat.zero_le _,(fun _ h=>nomatch h)⟩
structure InvK (r:Rel):Prop where
 inv:InvR r
 ok:qcl r=true
theorem InvK.sm {r:Rel} (h:InvK r):RelSm r:=h.inv.sm
theorem qboq {r:Rel} (hok:qcl r=true) (row:Row):qcl (qgc r row).1=true:=by
 unfold qgc
 split
 ·rename_i hc
  cases hk:qfb r (qj row r.1.2.1) with
  | none=>exact hok
  | some j=>
   dsimp only
   split
   ·exact hok
   ·rename_i ho
    exact (qbm6 hok hc.2 hk (by simpa using ho)).1
 ·exact hok
theorem qbsd {s:q8} (h:qfh s=true):qcl (s,[],())=true:=
 (qmz _).2 ⟨h,Nat.zero_le _,(fun _ h=>nomatch h),List.Pairwise.nil⟩
theorem qbb8 {X:Ext} (hX:XOk X) (N n:Nat) (hN:W+9≤N) (K:Cur→Rel→Rel→Option ((Rel×Unit)×Cur×Unit)) (z:Rel):∀ (m i:Nat) (c:Cur) (r:Rel),i≤9→9 - i<m→InvK r→qej c→
  ∃ (c':Cur) (r':Rel),qej c'∧InvK r'∧qgl (DD X N) n K m (i:Int) c z r=K c' z r'
 | 0,_,_,_,_,h,_,_=>by omega
 | m+1,i,c,r,hi,hf,hr,hc=>by
  have hM:=qbt
  simp only[qgl,qp0]
  obtain ⟨x,c1,hx,_,h1,e1⟩:=qka hX (n:=N) (by omega) hc 9
  obtain ⟨x1,x2⟩:=hx (by omega)
  rw[e1,qf]
  dsimp only
  by_cases h:(i:Int)<x
  ·obtain ⟨row,c2,h2,hl,_,e2⟩:=qbbu hX (n:=N) (by omega) h1 r.1 hr.inv.cols
   obtain ⟨y,c3,_,_,h3,e3⟩:=qka hX (n:=N) (by omega) h2 6
   have hl5:row.length≤5:=by have:=hr.inv.cols;omega
   have hl6:row.length≤M:=by omega
   rw[qm h,e2,qf]
   dsimp only
   rw[e3,qf,qp (by omega)]
   dsimp only
   by_cases k0:y=0
   ·rw[qm k0,qhm hX (by omega) r.1 row hl6 hr.inv.sch.key,qf]
    dsimp only
    rw[qbm9 hX (by omega) r hr.sm,qf]
    exact qbb8 hX N n hN K z m (i+1) c3 _ (by omega) (by omega) ⟨qbga hr.inv _,qbqw hr.ok _⟩ h3
   ·rw[qn k0]
    by_cases k1:y=1
    ·rw[qm k1,qbmf hX (by omega) r hr.sm row hl6,qf]
     exact qbb8 hX N n hN K z m (i+1) c3 _ (by omega) (by omega) ⟨qbej hr.inv hl5,qboq hr.ok _⟩ h3
    ·rw[qn k1,qbni hX (by omega) r hr.sm row hl6,qf]
     exact qbb8 hX N n hN K z m (i+1) c3 _ (by omega) (by omega) ⟨qbg2 hr.inv hl5,qbqr hr.ok _⟩ h3
  ·rw[qn h]
   exact ⟨c1,r,h1,hr,rfl⟩
theorem qbi7 {X:Ext} (hX:XOk X) {n:Nat} (hn:W+10≤n) {c:Cur} (hc:qej c):∃ (r:Rel) (c':Cur),InvK r∧qej c'∧qq6 (DD X n) c=some ((r,()),(c',())):=by
 obtain ⟨n,rfl⟩:∃ k,n=k+1:=⟨n - 1,by omega⟩
 have hW:=qb2
 rw[q9w hX]
 simp only[qrj,qq1,qol]
 obtain ⟨s,c1,hs,so,_,_,h1,e1⟩:=qbi2 hX (n:=n) (by omega) hc
 rw[e1,qf]
 dsimp only
 rw[qbnm hX (by omega) s hs.sm,qf]
 dsimp only
 obtain ⟨c2,r,h2,hr,e⟩:=qbb8 hX n n (by omega) (fun v0_0 v0_1 v0_2=>qno (DD X n) n v0_0 v0_1 v0_2) (([],[],[],()),[],()) n 0 c1 (q32 s).1 (by omega) (by omega) ⟨qbvz hs,by unfold q32;rw[if_pos (qbsd so)];exact qbsd so⟩ h1
 exact ⟨r,c2,hr,h2,e⟩
theorem qbmw {X:Ext} (hX:XOk X) {n:Nat} (hn:W+3≤n) {c:Cur} (hc:qej c) (r:Rel) (hr:InvR r):∃ (row:Row) (c':Cur),row.length≤5∧qej c'∧qtz (DD X n) c r=some ((row,()),(c',())):=by
 obtain ⟨n,rfl⟩:∃ k,n=k+1:=⟨n - 1,by omega⟩
 have hW:=qb2
 rw[qbdk hX]
 simp only[qug,q2h]
 obtain ⟨row,c1,h1,hl,_,e1⟩:=qbbu hX (n:=n) (by omega) hc r.1 hr.cols
 have hl5:row.length≤5:=by have:=hr.cols;omega
 rw[e1,qf]
 dsimp only
 rw[qjs]
 by_cases ha:(r.2.1.length:Int)>0
 ·by_cases hb:(row.length:Int)>0
  ·rw[decide_eq_true ha,decide_eq_true hb,Bool.true_and,br_t]
   obtain ⟨b,c2,h2,e2⟩:=q3e hX (n:=n) (by omega) h1 2
   rw[e2,qf]
   dsimp only
   cases b
   ·exact ⟨row,c2,hl5,h2,rfl⟩
   ·rw[br_t]
    obtain ⟨x,c3,hx,_,h3,e3⟩:=qka hX (n:=n) (by omega) h2 (r.2.1.length:Int)
    obtain ⟨x1,x2⟩:=hx ha
    rw[e3,qf]
    dsimp only
    rw[ixn x1 x2,br_t]
    by_cases h0:((r.2.1.getD x.toNat []).length:Int)>0
    ·have d1:∀ k:Nat,(k:Int)>0→(decide ((0:Nat)≤0)&&decide ((0:Int)<(k:Int)))=true:=fun k hk=>by
      rw[decide_eq_true (by omega),decide_eq_true (by omega)];rfl
     have d2:(decide ((0:Nat)≤0)&&true)=true:=rfl
     rw[qm h0,d1 _ h0,br_t,d2,br_t]
     exact ⟨_,c3,by rw[List.length_set];exact hl5,h3,rfl⟩
    ·rw[qn h0]
     exact ⟨row,c3,hl5,h3,rfl⟩
  ·rw[decide_eq_false hb,Bool.and_false,br_f]
   exact ⟨row,c1,hl5,h1,rfl⟩
 ·rw[decide_eq_false ha,Bool.false_and,br_f]
  exact ⟨row,c1,hl5,h1,rfl⟩
theorem qbi5 {X:Ext} (hX:XOk X) {n:Nat} (hn:W+11≤n) (a:List Int) (ha:a.length≤1048576):∃ (r:Rel) (row:Row),InvK r∧row.length≤5∧qq5 (DD X n) a=some ((r,row,()),()):=by
 obtain ⟨n,rfl⟩:∃ k,n=k+1:=⟨n - 1,by omega⟩
 rw[q9n hX]
 simp only[qqx,qx2]
 obtain ⟨c,hc,e⟩:=qbuv hX (n:=n) (by omega) a ha
 obtain ⟨r,c1,hr,h1,e1⟩:=qbi7 hX (n:=n) (by omega) hc
 obtain ⟨row,c2,hl,h2,e2⟩:=qbmw hX (n:=n) (by omega) h1 r hr.inv
 rw[e,qf];dsimp only
 rw[e1,qf];dsimp only
 refine ⟨r,row,hr,hl,Eq.trans (congrArg (fun z=>qg z _) e2) ?_⟩
 rw[qf]
end Go.G

namespace Go.G
set_option maxRecDepth 100000
open Go Go.V Go.Proofs
abbrev wd:Way:=(ByteArray.empty,ByteArray.empty,())
def wlt (a b:Way):Bool:=bif Op.bytesLess (ByteArray.toList a.1) (ByteArray.toList b.1) then true else bif List.beq (ByteArray.toList a.1) (ByteArray.toList b.1) then Op.bytesLess (ByteArray.toList a.2.1) (ByteArray.toList b.2.1) else false
theorem qbbr (a b:Way):qld (Ty.pair Ty.str (Ty.pair Ty.str Ty.unit)) a b=decide (a=b):=by
 obtain ⟨a1,a2,⟨⟩⟩:=a
 obtain ⟨b1,b2,⟨⟩⟩:=b
 have e:∀ x y:ByteArray,(x.toList == y.toList)=decide (x=y):=fun x y=>qng
 simp only[qld,e]
 by_cases h1:a1=b1<;>by_cases h2:a2=b2<;>simp[h1,h2]
theorem qbll {X:Ext} (hX:XOk X) {n:Nat} (hn:1≤n) (a b:Way):qzk (DD X n) a b=some ((wlt a b,()),()):=by
 obtain ⟨n,rfl⟩:∃ k,n=k+1:=⟨n - 1,by omega⟩
 rw[qbj3 hX];rfl
def qmv (l:List Way) (w:Way):List Way:=match qw (fun i=>!wlt (l.getD i wd) w) 0 l.length with
 | some j=>if l.getD j wd=w then l else l.take j++[w]++l.drop j
 | none=>l++[w]
theorem qbqg (D:Den ctx) (w x:Way):qbe ctx D (Clo.mk 92 [CapV.rptr (Ty.pair Ty.str (Ty.pair Ty.str Ty.unit)) w]) [CapV.val (Ty.pair Ty.str (Ty.pair Ty.str Ty.unit)) x] Ty.bool=(q5e D x w).bind fun q=>some q.1.1:=by kernel_rfl
theorem qbt7 {X:Ext} (hX:XOk X) {n:Nat} (hn:W+1≤n) (l:List Way) (hl:l.length≤maxLen) (c:Clo) (P:Nat→Bool)
  (hP:∀ i,i<l.length→qbe ctx (DD X (n - 1)) c [CapV.val (Ty.pair Ty.str (Ty.pair Ty.str Ty.unit)) (l.getD i wd)] Ty.bool=some (P i)) :
  qd2 (DD X n) l c=some ((match qw P 0 l.length with | some j=>(j:Int) | none=>-1,()),()):=by
 obtain ⟨n,rfl⟩:∃ k,n=k+1:=⟨n - 1,by omega⟩
 have hd:=qb0
 have hW:=qb2
 rw[qj9 hX]
 simp only[qdy,qd1,qds]
 refine Eq.trans (qss (L:=fun m i=>q9 (DD X n) n c _ _ m l l.length (i:Int)) (N:=l.length) (P:=P)
  (A:=fun j=>some (((j:Int),()),())) (B:=some ((-1,()),())) (fun m i hi=>?_) (m:=n) (by omega)) ?_
 ·simp only[q9,qdx]
  by_cases h:i<l.length
  ·have hp:qbe ctx (DD X n) c [CapV.val (Ty.pair Ty.str (Ty.pair Ty.str Ty.unit)) (l.getD i wd)] Ty.bool=some (P i):=hP i h
   rw[qm (by exact_mod_cast h),ix h,br_t,Int.toNat_natCast,hp,qf,qp (by omega),if_pos h];rfl
  ·rw[qn (by exact_mod_cast h),if_neg h];rfl
 ·cases qw P 0 l.length<;>rfl
theorem qbgz {X:Ext} (hX:XOk X) {n:Nat} (hn:1≤n) (a:List Way) (ha:a.length≤qbh):qew (DD X n) a=some ((a,()),()):=by
 obtain ⟨n,rfl⟩:∃ k,n=k+1:=⟨n - 1,by omega⟩
 rw[qvz hX]
 simp only[qha,qlt]
 cases a with
 | nil=>simp[qba5,both,qcm]
 | cons x a=>simp[qba5];simpa using ha
theorem q3n {X:Ext} (hX:XOk X) (hI:∀ n xs i ys,qb8 (DD X (n+1)) xs i ys=(insW xs i ys).map fun r=>((r,()),())) {n:Nat} (hn:W+3≤n) (l:List Way) (hl:l.length≤M) (w:Way) :
  qix (DD X n) l w=some ((qmv l w,()),()):=by
 obtain ⟨n,rfl⟩:∃ k,n=k+2:=⟨n - 2,by omega⟩
 have hd:=qb0
 have hM:=qbt
 have hb:=qcm
 have hW:=qb2
 rw[qblv hX]
 simp only[q1v,q9d]
 rw[qbgz hX (by omega) l (by omega),qf,qbt7 hX (n:=n+1) (by omega) l (by omega) _ (fun i=>!wlt (l.getD i wd) w) (fun i hi=>by
  obtain ⟨n,rfl⟩:∃ k,n=k+1:=⟨n - 1,by omega⟩
  rw[qbqg,show n+1+1 - 1=n+1 from rfl,qbh0 hX]
  simp only[qw1,q40]
  rw[qbll hX (by omega),qf]
  rfl),qf]
 dsimp only
 unfold qmv
 cases hf:qw (fun i=>!wlt (l.getD i wd) w) 0 l.length with
 | none=>
  dsimp only
  rw[qm (by decide),hI]
  unfold insW
  rw[if_pos ⟨by omega,by omega,by simp,by simp;omega⟩,Int.toNat_natCast,List.take_length,List.drop_length,List.append_nil]
  rfl
 | some j=>
  have hj:=(qdg hf).2.1
  have hj:j<l.length:=by omega
  dsimp only
  rw[qn (show ¬ (j:Int)<0 by omega),ix hj,br_t,Int.toNat_natCast,qbbr,hI]
  by_cases e:l.getD j wd=w
  ·rw[decide_eq_true e,br_t,if_pos e]
  ·rw[decide_eq_false e,br_f,if_neg e]
   unfold insW
   rw[if_pos ⟨by omega,by omega,by simp,by simp;omega⟩,Int.toNat_natCast]
   rfl
theorem q2q (l:List Way) (w:Way):(qmv l w).length≤l.length+1:=by
 unfold qmv
 split
 ·split
  ·omega
  ·simp only[List.length_append,List.length_take,List.length_drop,List.length_cons,List.length_nil];omega
 ·simp
end Go.G

namespace Go.G
set_option maxRecDepth 100000
open Go Go.V Go.Proofs
def qez (s:q8) (i:Nat) (row:Row):Way:=(qth (qle (qj row (s.2.2.1.getD i xd).2.1)),qth (qle (qj row s.2.1)),())
def qpk (s:q8) (i:Nat):List Row→List Way→List Way
 | [],l=>l
 | row::rows,l=>qpk s i rows (qmv l (qez s i row))
def qee (r:Rel) (i:Int):List Way:=if (qcl r&&inR i 0 ((r.1.2.2.1.length:Int) - 1))=true then qpk r.1 i.toNat r.2.1 [] else []
theorem qbey {r:Rel} {i:Int} {row:Row} (h1:qey r.1 row=true) (h2:inR i 0 ((r.1.2.2.1.length:Int) - 1)=true):qbho r i row=(qez r.1 i.toNat row,true):=by
 unfold qbho
 rw[h1,h2];rfl
theorem qbq5 {X:Ext} (hX:XOk X) {n:Nat} (hn:W+7≤n) (s:q8) (hs:SchSm s) (i:Nat) (hi:i<s.2.2.1.length) (row:Row) (hw:row.length≤M):q2u (DD X n) s (i:Int) row=some ((qez s i row,()),()):=by
 obtain ⟨n,rfl⟩:∃ k,n=k+1:=⟨n - 1,by omega⟩
 have hM:=qbt
 have l1:=qeh row (s.2.2.1.getD i xd).2.1
 have l2:=qeh row s.2.1
 have l3:=hs.ixc _ (qbp (d:=xd) hi)
 have l4:=hs.key
 rw[qbgh hX]
 simp only[q2x,q8l]
 rw[ix hi,br_t,Int.toNat_natCast,qp5 hX (by omega) row hw _ l3,qf]
 dsimp only
 rw[qpg hX (by omega) _ (by omega),qf,qgh hX (by omega) s row hw l4,qf]
 dsimp only
 rw[qpg hX (by omega) _ (by omega),qf]
 rfl
section
variable {X:Ext} (hX:XOk X) (hI:∀ n xs i ys,qb8 (DD X (n+1)) xs i ys=(insW xs i ys).map fun r=>((r,()),()))
include hX hI
theorem qbbs (N n:Nat) (hN:W+7≤N) (K:List Way→Option ((List Way×Unit)×Unit)) (r:Rel) (hr:RelSm r) (i:Nat) (hi:i<r.1.2.2.1.length):∀ (m k:Nat) (l:List Way),k≤r.2.1.length→r.2.1.length - k<m→l.length≤k→
  qlj (DD X N) n K m (i:Int) r.2.1 (r.2.1.length:Int) (k:Int) r l=K (qpk r.1 i (r.2.1.drop k) l)
 | 0,_,_,_,h,_=>by omega
 | m+1,k,l,hk,hf,hl=>by
  have hM:=qbt
  have h2:=hr.rows
  simp only[qlj,qzz]
  by_cases h:k<r.2.1.length
  ·rw[qm (by exact_mod_cast h),ix h,br_t,Int.toNat_natCast,qbq5 hX (by omega) r.1 hr.sch i hi _ (hr.row _ (qbp h)),qf]
   dsimp only
   have hp:=q2q l (qez r.1 i (r.2.1.getD k []))
   rw[q3n hX hI (by omega) l (by omega),qf,qp (by omega),qcx h,qbc h]
   rw[qbc h] at hp
   dsimp only
   exact qbbs N n hN K r hr i hi m (k+1) _ (by omega) (by omega) (by omega)
  ·rw[qn (by exact_mod_cast h),qf3 h];rfl
end
section
variable {X:Ext} (hX:XC X) (hI:∀ n xs i ys,qb8 (DD X (n+1)) xs i ys=(insW xs i ys).map fun r=>((r,()),()))
include hX hI
theorem qws {n:Nat} (hn:W+11≤n) (r:Rel) (hr:RelSm r) (i:Int):qgd (DD X n) r i=some ((qee r i,()),()):=by
 obtain ⟨n,rfl⟩:∃ k,n=k+1:=⟨n - 1,by omega⟩
 have hM:=qbt
 have hW:=qb2
 have h2:=hr.rows
 have h3:=hr.sch.ixs
 rw[qbli hX.ok]
 simp only[q07,q1e,qw2]
 rw[qqp hX (by omega) r hr,qf,qux hX.ok (by omega),qf,qc8 (by omega) (by omega)]
 unfold qee
 dsimp only
 cases qcl r
 ·rfl
 ·cases hin:inR i 0 ((r.1.2.2.1.length:Int) - 1)
  ·rfl
  ·obtain ⟨p1,p2⟩:=qbbc hin
   obtain ⟨i,rfl⟩:=Int.eq_ofNat_of_zero_le p1
   rw[Bool.not_true,br_f,br_f]
   have e:=qbbs hX.ok hI n n (by omega) (fun v0_0=>qv4 (DD X n) n v0_0) r hr i (by omega) n 0 [] (Nat.zero_le _) (by omega) (Nat.le_refl _)
   rw[show ((0:Nat):Int)=0 from rfl] at e
   rw[e];rfl
end
theorem qbbm (s:q8) (i:Nat):∀ (rows:List Row) (l:List Way),(qpk s i rows l).length≤l.length+rows.length
 | [],l=>Nat.le_refl _
 | row::rows,l=>by
  have h1:=qbbm s i rows (qmv l (qez s i row))
  have h2:=q2q l (qez s i row)
  simp only[qpk,List.length_cons];omega
theorem qbqd (r:Rel) (i:Int):(qee r i).length≤r.2.1.length:=by
 unfold qee
 split
 ·have:=qbbm r.1 i.toNat r.2.1 []
  simpa using this
 ·exact Nat.zero_le _
end Go.G

namespace Go.G
set_option maxRecDepth 100000
open Go Go.V
abbrev WayT:Ty:=.pair .str (.pair .str .unit)
end Go.G

namespace Go.G
set_option maxRecDepth 100000
open Go Go.V Go.Proofs
theorem qbcb (a b:Way):wlt a b=true↔a.1.toList<b.1.toList∨(a.1=b.1∧a.2.1.toList<b.2.1.toList):=by
 have e:(ByteArray.toList a.1 == ByteArray.toList b.1)=decide (a.1=b.1):=qng
 have e2:List.beq (ByteArray.toList a.1) (ByteArray.toList b.1)=decide (a.1=b.1):=e
 unfold wlt
 rw[qbb4,qbb4,e2]
 by_cases h:a.1.toList<b.1.toList
 ·simp[h]
 ·by_cases h2:a.1=b.1
  ·rw[decide_eq_false h,decide_eq_true h2];simp[h2,List.lt_irrefl]
  ·rw[decide_eq_false h,decide_eq_false h2];simp[h,h2]
theorem q8p (a:Way):¬ wlt a a=true:=by
 rw[qbcb]
 rintro (h | ⟨_,h⟩)<;>exact List.lt_irrefl _ h
theorem qbk2 {a b c:Way} (h:wlt a b=true) (k:wlt b c=true):wlt a c=true:=by
 rw[qbcb] at *
 rcases h with h | ⟨h,h2⟩
 ·rcases k with k | ⟨k,_⟩
  ·exact .inl (List.lt_trans h k)
  ·exact .inl (k ▸ h)
 ·rcases k with k | ⟨k,k2⟩
  ·exact .inl (h ▸ k)
  ·exact .inr ⟨h.trans k,List.lt_trans h2 k2⟩
theorem qbrh (a b:Way):wlt a b=true∨a=b∨wlt b a=true:=by
 rw[qbcb,qbcb]
 obtain ⟨a1,a2,⟨⟩⟩:=a
 obtain ⟨b1,b2,⟨⟩⟩:=b
 dsimp only
 by_cases h1:a1.toList<b1.toList
 ·exact .inl (.inl h1)
 ·by_cases h2:b1.toList<a1.toList
  ·exact .inr (.inr (.inl h2))
  ·have e1:a1=b1:=qbar (List.le_antisymm (List.not_lt.1 h2) (List.not_lt.1 h1))
   subst e1
   by_cases h3:a2.toList<b2.toList
   ·exact .inl (.inr ⟨rfl,h3⟩)
   ·by_cases h4:b2.toList<a2.toList
    ·exact .inr (.inr (.inr ⟨rfl,h4⟩))
    ·have e2:a2=b2:=qbar (List.le_antisymm (List.not_lt.1 h4) (List.not_lt.1 h3))
     exact .inr (.inl (by rw[e2]))
theorem qbq3 {a b:Way} (h:wlt a b=true):¬ wlt b a=true:=fun k=>q8p a (qbk2 h k)
def q23 (l:List Way):Prop:=l.Pairwise fun a b=>wlt a b=true
theorem q2r:∀ {a b:List Way},q23 a→q23 b→(∀ x,x∈a↔x∈b)→a=b
 | [],[],_,_,_=>rfl
 | [],y::b,_,_,h=>by have:=(h y).2 (by simp);simp at this
 | x::a,[],_,_,h=>by have:=(h x).1 (by simp);simp at this
 | x::a,y::b,ha,hb,h=>by
  obtain ⟨ha1,ha2⟩:=List.pairwise_cons.1 ha
  obtain ⟨hb1,hb2⟩:=List.pairwise_cons.1 hb
  have hxy:x=y:=by
   rcases List.mem_cons.1 ((h x).1 (by simp)) with e | hx
   ·exact e
   ·rcases List.mem_cons.1 ((h y).2 (by simp)) with e | hy
    ·exact e.symm
    ·exact absurd (ha1 y hy) (qbq3 (hb1 x hx))
  subst hxy
  refine congrArg _ (q2r ha2 hb2 fun z=>⟨fun hz=>?_,fun hz=>?_⟩)
  ·rcases List.mem_cons.1 ((h z).1 (List.mem_cons_of_mem _ hz)) with e | k
   ·exact absurd (ha1 z hz) (by rw[e];exact q8p _)
   ·exact k
  ·rcases List.mem_cons.1 ((h z).2 (List.mem_cons_of_mem _ hz)) with e | k
   ·exact absurd (hb1 z hz) (by rw[e];exact q8p _)
   ·exact k
theorem qbb3 {α:Type} (l:List α) (j:Nat) (w x:α):x∈l.take j++[w]++l.drop j↔x=w∨x∈l:=by
 have:x∈l↔x∈l.take j∨x∈l.drop j:=by rw[←List.mem_append,List.take_append_drop]
 simp only[List.mem_append,List.mem_singleton,this]
 constructor
 ·rintro ((h | h) | h)
  ·exact .inr (.inl h)
  ·exact .inl h
  ·exact .inr (.inr h)
 ·rintro (h | h | h)
  ·exact .inl (.inr h)
  ·exact .inl (.inl h)
  ·exact .inr h
theorem qbj8 (l:List Way) (w x:Way):x∈qmv l w↔x=w∨x∈l:=by
 unfold qmv
 cases hf:qw (fun i=>!wlt (l.getD i wd) w) 0 l.length with
 | none=>simp only[List.mem_append,List.mem_singleton];exact Or.comm
 | some j=>
  have hj:j<l.length:=by have:=(qdg hf).2.1;omega
  dsimp only
  by_cases e:l.getD j wd=w
  ·rw[if_pos e]
   exact ⟨.inr,fun k=>k.elim (fun k=>by rw[k,←e];exact qbp hj) id⟩
  ·rw[if_neg e];exact qbb3 l j w x
theorem q7w {l:List Way} (h:q23 l) (w:Way):q23 (qmv l w):=by
 unfold qmv
 have hp:=List.pairwise_iff_getElem.1 h
 cases hf:qw (fun i=>!wlt (l.getD i wd) w) 0 l.length with
 | none=>
  have hn:=qjl hf
  refine List.pairwise_append.2 ⟨h,List.pairwise_singleton _ _,fun a ha b hb=>?_⟩
  rw[List.mem_singleton] at hb;subst hb
  obtain ⟨i,hi,rfl⟩:=List.mem_iff_getElem.1 ha
  have:=hn i (Nat.zero_le _) (by omega)
  rw[qbc hi] at this
  simpa using this
 | some j=>
  obtain ⟨_,hj,hjp,hjl⟩:=qdg hf
  have hj:j<l.length:=by omega
  dsimp only
  by_cases e:l.getD j wd=w
  ·rw[if_pos e];exact h
  ·rw[if_neg e]
   have hw:wlt w l[j]=true:=by
    rw[qbc hj] at hjp e
    rcases qbrh w l[j] with k | k | k
    ·exact k
    ·exact absurd k.symm e
    ·rw[k] at hjp;cases hjp
   have hlo:∀ a∈l.take j,wlt a w=true:=fun a ha=>by
    obtain ⟨i,hi,hij,rfl⟩:=q58 ha
    have:=hjl i (Nat.zero_le _) hij
    rw[qbc hi] at this
    simpa using this
   have hhi:∀ b∈l.drop j,wlt w b=true:=fun b hb=>by
    obtain ⟨i,hi,hij,rfl⟩:=q56 hb
    by_cases k:i=j
    ·subst k;exact hw
    ·exact qbk2 hw (hp j i hj hi (by omega))
   have hs:(l.take j++l.drop j).Pairwise fun a b=>wlt a b=true:=by rw[List.take_append_drop];exact h
   obtain ⟨p1,p2,p3⟩:=List.pairwise_append.1 hs
   refine List.pairwise_append.2 ⟨List.pairwise_append.2 ⟨p1,List.pairwise_singleton _ _,fun a ha b hb=>?_⟩,p2,fun a ha b hb=>?_⟩
   ·rw[List.mem_singleton] at hb;subst hb;exact hlo a ha
   ·rcases List.mem_append.1 ha with ha | ha
    ·exact p3 a ha b hb
    ·rw[List.mem_singleton] at ha;subst ha;exact hhi b hb
theorem qbem (s:q8) (i:Nat):∀ (rows:List Row) {l:List Way},q23 l→q23 (qpk s i rows l)
 | [],_,h=>h
 | row::rows,_,h=>qbem s i rows (q7w h _)
theorem qboa (s:q8) (i:Nat) (x:Way):∀ (rows:List Row) (l:List Way),x∈qpk s i rows l↔x∈l∨∃ row∈rows,x=qez s i row
 | [],l=>by simp[qpk]
 | row::rows,l=>by
  simp only[qpk]
  rw[qboa s i x rows,qbj8]
  constructor
  ·rintro ((h | h) | ⟨y,hy,h⟩)
   ·exact .inr ⟨row,by simp,h⟩
   ·exact .inl h
   ·exact .inr ⟨y,by simp[hy],h⟩
  ·rintro (h | ⟨y,hy,h⟩)
   ·exact .inl (.inr h)
   ·rcases List.mem_cons.1 hy with rfl | hy
    ·exact .inl (.inl h)
    ·exact .inr ⟨y,hy,h⟩
theorem qwd (r:Rel) (i:Int):q23 (qee r i):=by
 unfold qee
 split
 ·exact qbem _ _ _ List.Pairwise.nil
 ·exact List.Pairwise.nil
theorem qbbd {r:Rel} {i:Nat} (hok:qcl r=true) (hi:i<r.1.2.2.1.length) (x:Way):x∈qee r (i:Int)↔∃ row∈r.2.1,x=qez r.1 i row:=by
 have hin:inR (i:Int) 0 ((r.1.2.2.1.length:Int) - 1)=true:=by unfold inR;rw[decide_eq_true (by omega),decide_eq_true (by omega)];rfl
 unfold qee
 rw[hok,hin,Bool.and_true,if_pos rfl,qboa,Int.toNat_natCast]
 simp
theorem qbub (y:Int) (k:Nat):0≤qbgv y k∧qbgv y k<256:=by
 unfold qbgv
 rw[q29]
 exact ⟨Int.emod_nonneg _ (by decide),Int.emod_lt_of_pos _ (by decide)⟩
def Byt (l:List Int):Prop:=∀ x∈l,0≤x∧x<256
theorem qbig (y:Int):∀ k,Byt (quw y k)
 | 0=>fun _ h=>nomatch h
 | k+1=>fun x hx=>by
  rcases List.mem_cons.1 hx with rfl | hx
  ·exact qbub y k
  ·exact qbig y k x hx
theorem qbno (t:ByteArray):∀ k i,Byt (escF t i k)
 | 0,_=>fun _ h=>nomatch h
 | k+1,i=>fun x hx=>by
  simp only[escF,List.mem_cons,List.mem_append] at hx
  have hu:=UInt8.toNat_lt (t.data.getD i (UInt8.ofNat 0))
  rcases hx with rfl | hx | hx
  ·omega
  ·split at hx
   ·simp only[List.mem_singleton] at hx;omega
   ·simp at hx
  ·exact qbno t k (i+1) x hx
theorem qbjb (v:Value):Byt (qe4 v):=by
 have ht:0≤tagI v∧tagI v<256:=by
  unfold tagI
  rw[q29]
  exact ⟨Int.emod_nonneg _ (by decide),Int.emod_lt_of_pos _ (by decide)⟩
 intro x hx
 unfold qe4 at hx
 split at hx
 ·simp only[List.mem_cons,List.not_mem_nil,or_false] at hx
  rcases hx with rfl | rfl
  ·exact ht
  ·rw[q29];exact ⟨Int.emod_nonneg _ (by decide),Int.emod_lt_of_pos _ (by decide)⟩
 ·split at hx
  ·rcases List.mem_cons.1 hx with rfl | hx
   ·exact ht
   ·exact qbig _ _ x hx
  ·split at hx
   ·rcases List.mem_cons.1 hx with rfl | hx
    ·exact ht
    ·rcases List.mem_append.1 hx with hx | hx
     ·exact qbno _ _ _ x hx
     ·simp only[List.mem_cons,List.not_mem_nil,or_false] at hx
      rcases hx with rfl | rfl<;>omega
   ·simp only[List.mem_singleton] at hx
    subst hx;exact ht
theorem qboy:∀ {a b:List Int},Byt a→Byt b→qth a=qth b→a=b:=by
 intro a b ha hb h
 have h2:a.map (fun n=>UInt8.ofNat (Int.toNat n))=b.map (fun n=>UInt8.ofNat (Int.toNat n)):=by
  have:=congrArg (fun z:ByteArray=>z.data.toList) h
  simpa [qth] using this
 have key:∀ (a b:List Int),Byt a→Byt b→a.map (fun n=>UInt8.ofNat (Int.toNat n))=b.map (fun n=>UInt8.ofNat (Int.toNat n))→a=b:=by
  intro a
  induction a with
  | nil=>intro b _ _ h;cases b with | nil=>rfl | cons y b=>simp at h
  | cons x a ih=>
   intro b ha hb h
   cases b with
   | nil=>simp at h
   | cons y b=>
    simp only[List.map_cons,List.cons.injEq] at h
    have hx:=ha x (by simp)
    have hy:=hb y (by simp)
    have e:=congrArg UInt8.toNat h.1
    simp only[UInt8.toNat_ofNat'] at e
    have:x=y:=by omega
    rw[this,ih b (fun z hz=>ha z (by simp[hz])) (fun z hz=>hb z (by simp[hz])) h.2]
 exact key a b ha hb h2
def escL:List UInt8→List Int
 | []=>[]
 | b::l=>(b.toNat:Int)::((if (b.toNat:Int)=0 then [255] else [])++escL l)
theorem qbam (t:ByteArray):∀ (k i:Nat),i+k=t.size→escF t i k=escL (t.data.toList.drop i)
 | 0,i,h=>by
  have:t.data.toList.length=t.size:=rfl
  rw[List.drop_eq_nil_of_le (by omega)];rfl
 | k+1,i,h=>by
  have hl:t.data.toList.length=t.size:=rfl
  have hi:i<t.data.toList.length:=by omega
  have hg:t.data.getD i (UInt8.ofNat 0)=t.data.toList[i]:=by
   simp only[Array.getD,Array.length_toList] at hi ⊢
   rw[dif_pos hi];rfl
  rw[List.drop_eq_getElem_cons hi]
  simp only[escF,escL]
  rw[hg,qbam t k (i+1) (by omega)]
theorem qbi0:∀ {l l':List UInt8} {R R':List Int},escL l++0::1::R=escL l'++0::1::R'→l=l'∧R=R'
 | [],[],R,R',h=>by simp only[escL,List.nil_append,List.cons.injEq,true_and] at h;exact ⟨rfl,h⟩
 | [],b::l',R,R',h=>by
  simp only[escL,List.nil_append,List.cons_append,List.cons.injEq] at h
  obtain ⟨h1,h2⟩:=h
  rw[if_pos h1.symm] at h2
  simp at h2
 | b::l,[],R,R',h=>by
  simp only[escL,List.nil_append,List.cons_append,List.cons.injEq] at h
  obtain ⟨h1,h2⟩:=h
  rw[if_pos h1] at h2
  simp at h2
 | b::l,b'::l',R,R',h=>by
  simp only[escL,List.cons_append,List.cons.injEq] at h
  obtain ⟨h1,h2⟩:=h
  have hb:b=b':=UInt8.toNat_inj.1 (by omega)
  subst hb
  by_cases h0:(b.toNat:Int)=0
  ·rw[if_pos h0] at h2
   simp only[List.cons_append,List.nil_append,List.cons.injEq,true_and] at h2
   obtain ⟨e1,e2⟩:=qbi0 h2
   exact ⟨by rw[e1],e2⟩
  ·rw[if_neg h0] at h2
   simp only[List.nil_append] at h2
   obtain ⟨e1,e2⟩:=qbi0 h2
   exact ⟨by rw[e1],e2⟩
theorem qbv1 {y z:Int} (hy:0≤y) (hy2:y<9223372036854775808) (hz:0≤z) (hz2:z<9223372036854775808) (h:quw y 8=quw z 8):y=z:=by
 simp only[quw,qbgv,q29,List.cons.injEq,and_true] at h
 obtain ⟨h7,h6,h5,h4,h3,h2,h1,h0⟩:=h
 have p:∀ (x:Int) (k:Nat),Int.fdiv x (Int.pow 2 k)=x / (Int.pow 2 k):=fun x k=>Int.fdiv_eq_ediv_of_nonneg x (by
  have:(0:Int)≤2 ^ k:=Int.pow_nonneg (by decide)
  exact this)
 rw[p,p] at h7 h6 h5 h4 h3 h2 h1 h0
 have q7:Int.pow 2 (8 * 7)=72057594037927936:=by decide
 have q6:Int.pow 2 (8 * 6)=281474976710656:=by decide
 have q5:Int.pow 2 (8 * 5)=1099511627776:=by decide
 have q4:Int.pow 2 (8 * 4)=4294967296:=by decide
 have q3:Int.pow 2 (8 * 3)=16777216:=by decide
 have q2:Int.pow 2 (8 * 2)=65536:=by decide
 have q1:Int.pow 2 (8 * 1)=256:=by decide
 have q0:Int.pow 2 (8 * 0)=1:=by decide
 rw[q7] at h7;rw[q6] at h6;rw[q5] at h5;rw[q4] at h4;rw[q3] at h3;rw[q2] at h2;rw[q1] at h1;rw[q0] at h0
 omega
theorem q8q {v:Value}:∃ l,qe4 v=tagI v::l:=by
 unfold qe4
 split
 ·exact ⟨_,rfl⟩
 ·split
  ·exact ⟨_,rfl⟩
  ·split<;>exact ⟨_,rfl⟩
theorem q7t {v:Value} (h:qc9 v=true):0≤v.1∧v.1≤3:=by
 unfold qc9 at h
 by_cases h0:v.1=0
 ·omega
 ·by_cases h1:v.1=1
  ·omega
  ·by_cases h2:v.1=2
   ·omega
   ·by_cases h3:v.1=3
    ·omega
    ·rw[decide_eq_false h0,decide_eq_false h1,decide_eq_false h2,decide_eq_false h3] at h;cases h
theorem qbsl {v:Value} (h:qc9 v=true):tagI v=v.1+1:=by
 obtain ⟨h0,h3⟩:=q7t h
 unfold tagI
 rw[qc8 (by omega) (by omega),q29]
 omega
theorem qwg {v:Value} (h:qmx v=true):v.2.2.1=ByteArray.mk #[]:=by simpa [qmx] using h
theorem qbsf {v v':Value} (h:qc9 v=true) (h':qc9 v'=true) {R R':List Int} (e:qe4 v++R=qe4 v'++R'):v=v'∧R=R':=by
 obtain ⟨k0,k3⟩:=q7t h
 obtain ⟨k0',k3'⟩:=q7t h'
 have hk:v.1=v'.1:=by
  obtain ⟨l,hl⟩:=q8q (v:=v)
  obtain ⟨l',hl'⟩:=q8q (v:=v')
  rw[hl,hl'] at e
  simp only[List.cons_append,List.cons.injEq] at e
  have:=e.1
  rw[qbsl h,qbsl h'] at this
  omega
 obtain ⟨a,b,c,⟨⟩⟩:=v
 obtain ⟨a',b',c',⟨⟩⟩:=v'
 dsimp only at hk k0 k3
 subst hk
 unfold qc9 at h h'
 unfold qe4 at e
 dsimp only at h h' e
 by_cases h1:a=1
 ·subst h1
  replace h:(inR b 0 1&&qmx (1,b,c,()))=true:=h
  replace h':(inR b' 0 1&&qmx (1,b',c',()))=true:=h'
  simp only[Bool.and_eq_true,inR,decide_eq_true_eq] at h h'
  have t:=qwg h.2
  have t':=qwg h'.2
  dsimp only at t t'
  subst t;subst t'
  simp only[if_true,tagI,q29,List.cons_append,List.nil_append,List.cons.injEq,true_and] at e
  have:b=b':=by omega
  exact ⟨by rw[this],e.2⟩
 ·by_cases h2:a=2
  ·subst h2
   replace h:(inR b (-1000000000000) 1000000000000&&qmx (2,b,c,()))=true:=h
   replace h':(inR b' (-1000000000000) 1000000000000&&qmx (2,b',c',()))=true:=h'
   simp only[Bool.and_eq_true,inR,decide_eq_true_eq] at h h'
   have t:=qwg h.2
   have t':=qwg h'.2
   dsimp only at t t'
   subst t;subst t'
   rw[if_neg (by decide),if_pos rfl,if_neg (by decide),if_pos rfl] at e
   simp only[tagI,List.cons_append,List.cons.injEq,true_and] at e
   obtain ⟨e1,e2⟩:=List.append_inj e (by rw[qxf,qxf])
   rw[qc8 (by omega) (by omega),qc8 (by omega) (by omega)] at e1
   have:=qbv1 (by omega) (by omega) (by omega) (by omega) e1
   have:b=b':=by omega
   exact ⟨by rw[this],e2⟩
  ·by_cases h3:a=3
   ·subst h3
    replace h:(decide (b=0)&&decide ((c.size:Int)≤20))=true:=h
    replace h':(decide (b'=0)&&decide ((c'.size:Int)≤20))=true:=h'
    simp only[Bool.and_eq_true,inR,decide_eq_true_eq] at h h'
    rw[if_neg (by decide),if_neg (by decide),if_pos rfl,if_neg (by decide),if_neg (by decide),if_pos rfl] at e
    simp only[tagI,List.cons_append,List.cons.injEq,true_and,List.append_assoc,List.nil_append] at e
    rw[qbam c c.size 0 (by omega),qbam c' c'.size 0 (by omega),List.drop_zero,List.drop_zero] at e
    obtain ⟨e1,e2⟩:=qbi0 e
    have hc:c=c':=by
     cases c;cases c'
     simp only[ByteArray.mk.injEq]
     exact Array.toList_inj.1 e1
    exact ⟨by rw[hc,h.1,h'.1],e2⟩
   ·have h0:a=0:=by omega
    subst h0
    replace h:(decide (b=0)&&qmx (0,b,c,()))=true:=h
    replace h':(decide (b'=0)&&qmx (0,b',c',()))=true:=h'
    simp only[Bool.and_eq_true,inR,decide_eq_true_eq] at h h'
    have t:=qwg h.2
    have t':=qwg h'.2
    dsimp only at t t'
    subst t;subst t'
    rw[if_neg (by decide),if_neg (by decide),if_neg (by decide),if_neg (by decide),if_neg (by decide),if_neg (by decide)] at e
    simp only[tagI,List.cons_append,List.nil_append,List.cons.injEq,true_and] at e
    exact ⟨by rw[h.1,h'.1],e⟩
theorem qbnb:∀ {a b:Row},(∀ v∈a,qc9 v=true)→(∀ v∈b,qc9 v=true)→a.flatMap qe4=b.flatMap qe4→a=b
 | [],[],_,_,_=>rfl
 | [],y::b,_,_,h=>by
  obtain ⟨l,hl⟩:=q8q (v:=y)
  rw[List.flatMap_cons,hl] at h;simp at h
 | x::a,[],_,_,h=>by
  obtain ⟨l,hl⟩:=q8q (v:=x)
  rw[List.flatMap_cons,hl] at h;simp at h
 | x::a,y::b,ha,hb,h=>by
  rw[List.flatMap_cons,List.flatMap_cons] at h
  obtain ⟨e1,e2⟩:=qbsf (ha x (by simp)) (hb y (by simp)) h
  rw[e1,qbnb (fun v hv=>ha v (by simp[hv])) (fun v hv=>hb v (by simp[hv])) e2]
theorem qbhf {a:Row} (hl:a.length≤4) (hv:∀ v∈a,qc9 v=true):qqn a=true:=by
 unfold qqn
 rw[decide_eq_true (by omega),qbn.2 (fun j _ hj=>?_)]
 ·rfl
 ·have hj:j<a.length:=by omega
  rw[qbc hj,hv _ (List.getElem_mem hj)];rfl
theorem qbrq {a b:Row} (ha:qqn a=true) (hb:qqn b=true) (h:qth (qle a)=qth (qle b)):a=b:=by
 obtain ⟨_,va⟩:=q1r ha
 obtain ⟨_,vb⟩:=q1r hb
 unfold qle at h
 rw[if_pos ha,if_pos hb] at h
 have bt:∀ c:Row,Byt (c.flatMap qe4):=fun c x hx=>by
  obtain ⟨v,_,hv⟩:=List.mem_flatMap.1 hx
  exact qbjb v x hv
 exact qbnb va vb (qboy (bt a) (bt b) h)
theorem qbq0 {s:q8} (h:qfh s=true):s.2.1.length≤4:=by
 simp only[qfh,Bool.and_eq_true,qcs,inR,decide_eq_true_eq] at h
 omega
theorem qbvx {s:q8} {i:Nat} {x y:Row} (hx:qey s x=true) (hy:qey s y=true) (h:qez s i x=qez s i y):qj x s.2.1=qj y s.2.1:=by
 have hs:qfh s=true:=by simp only[qey,Bool.and_eq_true] at hx;exact hx.1
 have hk:=qbq0 hs
 have lx:=qeh x s.2.1
 have ly:=qeh y s.2.1
 refine qbrq (qbhf (by omega) fun v hv=>qxb hx v (q5y v hv)) (qbhf (by omega) fun v hv=>qxb hy v (q5y v hv)) ?_
 exact congrArg (fun w:Way=>w.2.1) h
end Go.G

namespace Go.G
set_option maxRecDepth 100000
open Go Go.V Go.Proofs
def q7s (D:Den ctx) (c:Clo) (P:Way→Bool):Prop:=∀ x:Way,qbe ctx D c [CapV.val WayT x] Ty.bool=some (P x)
theorem qbla {X:Ext} (hX:XOk X) {n:Nat} (hn:1≤n) (w:Way):q7s (DD X n) (Clo.mk 97 [CapV.rptr WayT w]) fun x=>decide (x=w):=by
 obtain ⟨n,rfl⟩:∃ k,n=k+1:=⟨n - 1,by omega⟩
 intro x
 have h:∀ D:Den ctx,qbe ctx D (Clo.mk 97 [CapV.rptr WayT w]) [CapV.val WayT x] Ty.bool=(q45 D x w).bind fun r=>some r.1.1:=fun D=>by kernel_rfl
 rw[h,qbf9 hX]
 simp only[qxh,q5l,Option.bind_some,qbbr]
theorem qbec (D:Den ctx) (n:Nat) (c:Clo) (P:Way→Bool) (hP:q7s D c P) (K0:Int→Option ((Int×Unit)×Unit)) (K1:Option ((Int×Unit)×Unit)):∀ (m i:Nat) (a:List Way),a.length≤maxLen→i≤a.length→a.length - i<m→
  (q9 D n c K0 K1 m a a.length i=K1∧∀ k,i≤k→k<a.length→P (a.getD k wd)=false)∨
  ∃ j,i≤j∧j<a.length∧P (a.getD j wd)=true∧(∀ k,i≤k→k<j→P (a.getD k wd)=false)∧q9 D n c K0 K1 m a a.length i=K0 (j:Int)
 | 0,_,_,_,_,h=>by omega
 | m+1,i,a,hm,hi,hf=>by
  simp only[q9,qdx]
  have hd:=qb0
  by_cases h:i<a.length
  ·rw[qm (by exact_mod_cast h),ix h,br_t,Int.toNat_natCast,hP,qf,qp (by omega)]
   cases hp:P (a.getD i (ByteArray.empty,ByteArray.empty,())) with
   | true=>exact .inr ⟨i,by omega,h,hp,fun k h1 h2=>by omega,by rw[br_t]⟩
   | false=>
    rw[br_f]
    rcases qbec D n c P hP K0 K1 m (i+1) a hm (by omega) (by omega) with ⟨e,hall⟩ | ⟨j,h1,h2,h3,h4,e⟩
    ·refine .inl ⟨e,fun k h1 h2=>?_⟩
     rcases Nat.eq_or_lt_of_le h1 with rfl | h1
     ·exact hp
     ·exact hall k h1 h2
    ·refine .inr ⟨j,by omega,h2,h3,fun k h5 h6=>?_,e⟩
     rcases Nat.eq_or_lt_of_le h5 with rfl | h5
     ·exact hp
     ·exact h4 k h5 h6
  ·rw[qn (by exact_mod_cast h)]
   exact .inl ⟨rfl,fun k h1 h2=>by omega⟩
theorem qbd4 {P:Way→Bool} {a:List Way}:∀ {i:Nat},i≤a.length→(∀ k,k<i→P (a.getD k wd)=false)→(a.take i).filter (fun x=>!P x)=a.take i:=by
 intro i hi h
 rw[List.filter_eq_self]
 intro x hx
 obtain ⟨k,hk,rfl⟩:=List.mem_iff_getElem.1 hx
 rw[List.length_take] at hk
 have:=h k (by omega)
 rw[qbc (by omega)] at this
 rw[List.getElem_take,this]
 rfl
theorem q3k (D:Den ctx) (n:Nat) (c:Clo) (P:Way→Bool) (hP:q7s D c P) (K0:Int→List Way→Option ((List Way×Unit)×Unit)) (a:List Way) (ha:a.length≤maxLen):∀ (m i j:Nat) (l:List Way),l.length=a.length→i<j→j≤a.length→a.length - j<m→
  l.take i=(a.take j).filter (fun x=>!P x)→l.drop j=a.drop j→
  ∃ (i':Nat) (l':List Way),i'<a.length∧l'.length=a.length∧l'.take i'=a.filter (fun x=>!P x)∧qb5 D n c K0 m i j l=K0 (i':Int) l'
 | 0,_,_,_,_,_,_,h,_,_=>by omega
 | m+1,i,j,l,hl,hij,hj,hf,ht,hdr=>by
  simp only[qb5,qfe]
  have hd:=qb0
  by_cases h:j<a.length
  ·have hjl:j<l.length:=by omega
   have hx:l[j]=a[j]:=by
    rw[qcx hjl,qcx h] at hdr
    exact (List.cons.inj hdr).1
   have hdr2:l.drop (j+1)=a.drop (j+1):=by
    rw[qcx hjl,qcx h] at hdr
    exact (List.cons.inj hdr).2
   have htk:a.take (j+1)=a.take j++[a[j]]:=by rw[List.take_succ_eq_append_getElem h]
   rw[qm (by exact_mod_cast hjl),ix hjl,br_t,Int.toNat_natCast,hP,qf,qbc hjl,hx,qp (i:=j) (by omega)]
   cases hp:P a[j] with
   | false=>
    rw[Bool.not_false,br_t,ix (i:=i) (by omega),br_t,Int.toNat_natCast,qp (i:=i) (by omega)]
    have e:=q3k D n c P hP K0 a ha m (i+1) (j+1) (l.set i a[j]) (by simpa using hl) (by omega) (by omega) (by omega)
     (by rw[qbuc (by omega),ht,htk,List.filter_append];simp[hp]) (by rw[List.drop_set_of_lt (by omega)];exact hdr2)
    exact e
   | true=>
    rw[Bool.not_true,br_f]
    exact q3k D n c P hP K0 a ha m i (j+1) l hl (by omega) (by omega) (by omega) (by rw[ht,htk,List.filter_append];simp[hp]) hdr2
  ·have e:j=a.length:=by omega
   subst e
   rw[qn (by omega)]
   exact ⟨i,l,hij,hl,by rw[ht,List.take_length],rfl⟩
theorem qbnp {X:Ext} (hX:XOk X) {n:Nat} (hn:W+2≤n) (a:List Way) (ha:a.length≤maxLen) (c:Clo) (P:Way→Bool) (hP1:q7s (DD X (n - 1)) c P) (hP2:q7s (DD X (n - 2)) c P) :
  qfs (DD X n) a c=some ((a.filter (fun x=>!P x),()),()):=by
 obtain ⟨n,rfl⟩:∃ k,n=k+2:=⟨n - 2,by omega⟩
 have hW:=qb2
 have hd:=qb0
 have hP1':q7s (DD X (n+1)) c P:=hP1
 have hP2':q7s (DD X n) c P:=hP2
 rw[qr9 hX]
 simp only[qfp,qft,qfa]
 rw[qj9 hX]
 simp only[qdy,qd1,qds]
 have hI:=qbec (DD X n) n c P hP2' (fun v=>qdi (DD X n) n c v) (qdj (DD X n) n c) n 0 a ha (by omega) (by omega)
 rw[show ((0:Nat):Int)=0 from rfl] at hI
 rcases hI with ⟨e,hall⟩ | ⟨j,_,hj,hp,hall,e⟩
 ·rw[e]
  simp only[qdj,qf,decide_true,br_t]
  have:=qbd4 (P:=P) (a:=a) (Nat.le_refl _) (fun k hk=>hall k (by omega) hk)
  rw[List.take_length] at this
  rw[this]
 ·rw[e]
  simp only[qdi,qf]
  rw[qn (by omega),qp (by omega)]
  have hf:=qbd4 (P:=P) (a:=a) (i:=j) (by omega) (fun k hk=>hall k (by omega) hk)
  rw[qbc hj] at hp
  obtain ⟨i',l',h1,h2,h3,e2⟩:=q3k (DD X (n+1)) (n+1) c P hP1' (fun v w=>qdc (DD X (n+1)) (n+1) c v w) a ha (n+1) j (j+1) a rfl (by omega) (by omega) (by omega)
   (by rw[List.take_succ_eq_append_getElem hj,List.filter_append,hf];simp[hp]) rfl
  rw[e2]
  simp only[qdc]
  have hz:(qi2 WayT l' i' l'.length).length=l'.length:=by
   simp only[qi2,List.length_append,List.length_take,List.length_replicate,List.length_drop];omega
  have hz2:List.take i' (qi2 WayT l' i' l'.length)=l'.take i':=by
   simp only[qi2]
   rw[List.append_assoc,List.take_append_of_le_length (by rw[List.length_take];omega),List.take_take,Nat.min_self]
  have hc1:(decide ((0:Int)≤(i':Int))&&decide ((i':Int)≤(l'.length:Int)))=true:=by
   rw[decide_eq_true (by omega),decide_eq_true (by omega)];rfl
  have hz':(qi2 (Ty.pair Ty.str (Ty.pair Ty.str Ty.unit)) l' i' l'.length).length=l'.length:=hz
  have hz2':List.take i' (qi2 (Ty.pair Ty.str (Ty.pair Ty.str Ty.unit)) l' i' l'.length)=l'.take i':=hz2
  rw[hc1,br_t,Int.toNat_natCast,qm (by omega),hz',hc1,br_t,hz2',h3]
def del (a:List Way) (w:Way):List Way:=a.filter fun x=>!decide (x=w)
theorem qbnf {X:Ext} (hX:XOk X) {n:Nat} (hn:W+3≤n) (a:List Way) (ha:a.length≤qbh) (w:Way):qiu (DD X n) a w=some ((del a w,()),()):=by
 obtain ⟨n,rfl⟩:∃ k,n=k+1:=⟨n - 1,by omega⟩
 have hb:=qcm
 have hd:=qb0
 have hW:=qb2
 rw[qbl5 hX]
 simp only[q1s,q9c]
 rw[qbgz hX (by omega) a ha,qf];dsimp only
 rw[qbnp hX (by omega) a (by omega) _ (fun x=>decide (x=w)) (qbla hX (by omega) w) (qbla hX (by omega) w),qf]
 rfl
end Go.G

/- The row FnWaysKept holds: for all bytes the law returns true and the argument reads as before. No condition. -/
namespace Go.G
set_option linter.unusedVariables false
set_option linter.unusedSimpArgs false
set_option maxRecDepth 100000
open Go Go.V Go.Proofs

theorem q7v {X:Ext} (hX:XOk X) {n:Nat} (hn:W+1≤n) (a b:List Way) (ha:a.length≤M):qfl (DD X n) a b=some ((decide (a=b),()),()):=by
 obtain ⟨n,rfl⟩:∃ k,n=k+1:=⟨n - 1,by omega⟩
 have hM:=qbt
 have hW:=qb2
 rw[qbgg hX]
 simp only[qw8,qwj,quc]
 rw[qbb9]
 by_cases hl:a.length=b.length
 ·rw[decide_eq_true hl,Bool.not_true,br_f]
  refine Eq.trans (qi0 (L:=fun m i=>qjr (DD X n) n _ _ m a b (i:Int)) (N:=a.length) (P:=fun i=>!decide (a.getD i wd=b.getD i wd))
   (A:=some ((false,()),())) (B:=some ((true,()),())) (fun m i hi=>?_) (m:=n) (by omega)) ?_
  ·simp only[qjr,qvo]
   by_cases h:i<a.length
   ·rw[qm (by exact_mod_cast h),ix h,br_t,ix (hl ▸ h),br_t,Int.toNat_natCast,qbbr,qp (by omega),if_pos h];rfl
   ·rw[qn (by exact_mod_cast h),if_neg h];rfl
  ·by_cases e:a=b
   ·rw[decide_eq_true e,qbn.2 (fun j _ _=>by rw[e];simp)];rfl
   ·rw[decide_eq_false e]
    have:qt (fun i=>!decide (a.getD i wd=b.getD i wd)) 0 a.length=true:=by
     rw[←Bool.not_eq_false]
     intro hf
     apply e
     apply List.ext_getElem hl
     intro i h1 h2
     have:=qbn.1 hf i (by omega) (by omega)
     rw[qbc h1,qbc h2] at this
     simpa using this
    rw[this];rfl
 ·have:¬ a=b:=fun e=>hl (by rw[e])
  rw[decide_eq_false hl,decide_eq_false this];rfl
theorem qbeh {α:Type} {l:List α} {j:Nat} {x:α}:x∈l.take j++l.drop (j+1)↔∃ k,∃ hk:k<l.length,k≠j∧x=l[k]:=by
 rw[List.mem_append]
 constructor
 ·rintro (h | h)
  ·obtain ⟨i,hi,hij,rfl⟩:=q58 h
   exact ⟨i,hi,by omega,rfl⟩
  ·obtain ⟨i,hi,hij,rfl⟩:=q56 h
   exact ⟨i,hi,by omega,rfl⟩
 ·rintro ⟨k,hk,hkj,rfl⟩
  by_cases h:k<j
  ·refine .inl (List.mem_iff_getElem.2 ⟨k,by rw[List.length_take];omega,by rw[List.getElem_take]⟩)
  ·refine .inr (List.mem_iff_getElem.2 ⟨k - (j+1),by rw[List.length_drop];omega,?_⟩)
   rw[List.getElem_drop]
   congr 1;omega
theorem q8a {α:Type} {l:List α} {j:Nat} (hj:j<l.length) {x y:α}:x∈l.set j y↔x=y∨∃ k,∃ hk:k<l.length,k≠j∧x=l[k]:=by
 constructor
 ·intro h
  obtain ⟨k,hk,rfl⟩:=List.mem_iff_getElem.1 h
  rw[List.length_set] at hk
  by_cases e:k=j
  ·subst e;exact .inl (by rw[List.getElem_set_self])
  ·exact .inr ⟨k,hk,e,by rw[List.getElem_set_ne (fun k=>e k.symm)]⟩
 ·rintro (rfl | ⟨k,hk,e,rfl⟩)
  ·exact List.mem_iff_getElem.2 ⟨j,by rw[List.length_set];exact hj,by rw[List.getElem_set_self]⟩
  ·exact List.mem_iff_getElem.2 ⟨k,by rw[List.length_set];exact hk,by rw[List.getElem_set_ne (fun k=>e k.symm)]⟩
theorem qbvw (l:List Way) (v x:Way):x∈del l v↔x∈l∧x≠v:=by
 unfold del
 rw[List.mem_filter];simp
theorem qbgo {l:List Way} (h:q23 l) (v:Way):q23 (del l v):=List.Pairwise.filter _ h
theorem qbu8 (l:List Way) (v:Way):(del l v).length≤l.length:=List.length_filter_le _ _
/-- what is put along is what is made anew -/
theorem qbt5 {r:Rel} {row:Row} {i:Nat} (hi:i<r.1.2.2.1.length) (hok:qcl r=true) (hrow:qey r.1 row=true) (hk:qfb r (qj row r.1.2.1)=none) (ho:others r row (-1)=false) (hl:r.2.1.length<12) :
  qmv (qee r (i:Int)) (qez r.1 i row)=qee (put r row) (i:Int):=by
 refine q2r (q7w (qwd r _) _) (qwd _ _) fun x=>?_
 rw[qbj8,qbbd hok hi,qbbd (qbsk hok hrow hk ho hl) hi]
 show _↔∃ y∈r.2.1.take (qdz r (qj row r.1.2.1))++[row]++r.2.1.drop (qdz r (qj row r.1.2.1)),x=qez r.1 i y
 constructor
 ·rintro (h | ⟨y,hy,h⟩)
  ·exact ⟨row,(qbb3 _ _ _ _).2 (.inl rfl),h⟩
  ·exact ⟨y,(qbb3 _ _ _ _).2 (.inr hy),h⟩
 ·rintro ⟨y,hy,h⟩
  rcases (qbb3 _ _ _ _).1 hy with rfl | hy
  ·exact .inl h
  ·exact .inr ⟨y,hy,h⟩
theorem qbsv {r:Rel} (hok:qcl r=true) (i:Nat) {j k:Nat} (hj:j<r.2.1.length) (hk:k<r.2.1.length) (h:k≠j):qez r.1 i r.2.1[k]≠qez r.1 i r.2.1[j]:=by
 obtain ⟨_,_,h3,h4⟩:=(qmz r).1 hok
 have hp:=List.pairwise_iff_getElem.1 h4
 intro e
 have e2:=qbvx (h3 _ (List.getElem_mem hk)) (h3 _ (List.getElem_mem hj)) e
 rcases Nat.lt_or_gt_of_ne h with q | q
 ·have:=(hp k j hk hj q).1
  rw[e2,q2v] at this;cases this
 ·have:=(hp j k hj hk q).1
  rw[e2,q2v] at this;cases this
theorem qbf7 {r:Rel} {i j:Nat} (hi:i<r.1.2.2.1.length) (hok:qcl r=true) (hj:j<r.2.1.length) (x:Way) :
  x∈del (qee r (i:Int)) (qez r.1 i (r.2.1.getD j []))↔∃ k,∃ hk:k<r.2.1.length,k≠j∧x=qez r.1 i r.2.1[k]:=by
 rw[qbvw,qbbd hok hi,qbc hj]
 constructor
 ·rintro ⟨⟨y,hy,rfl⟩,h⟩
  obtain ⟨k,hk,rfl⟩:=List.mem_iff_getElem.1 hy
  exact ⟨k,hk,fun e=>h (by subst e;rfl),rfl⟩
 ·rintro ⟨k,hk,hkj,rfl⟩
  exact ⟨⟨_,List.getElem_mem hk,rfl⟩,qbsv hok i hj hk hkj⟩
theorem qbs1 {r:Rel} {i j:Nat} (hi:i<r.1.2.2.1.length) (hok:qcl r=true) (hj:j<r.2.1.length) :
  del (qee r (i:Int)) (qez r.1 i (r.2.1.getD j []))=qee (r.1,r.2.1.take j++r.2.1.drop (j+1),()) (i:Int):=by
 refine q2r (qbgo (qwd r _) _) (qwd _ _) fun x=>?_
 rw[qbf7 hi hok hj,qbbd (r:=(r.1,r.2.1.take j++r.2.1.drop (j+1),())) (qbsu hok j) hi]
 constructor
 ·rintro ⟨k,hk,hkj,rfl⟩
  exact ⟨_,qbeh.2 ⟨k,hk,hkj,rfl⟩,rfl⟩
 ·rintro ⟨y,hy,rfl⟩
  obtain ⟨k,hk,hkj,rfl⟩:=qbeh.1 hy
  exact ⟨k,hk,hkj,rfl⟩
theorem qbtz {r:Rel} {row:Row} {i j:Nat} (hi:i<r.1.2.2.1.length) (hok:qcl r=true) (hrow:qey r.1 row=true) (hk:qfb r (qj row r.1.2.1)=some j) (ho:others r row j=false) :
  qmv (del (qee r (i:Int)) (qez r.1 i (r.2.1.getD j []))) (qez r.1 i row)=qee (r.1,r.2.1.set j row,()) (i:Int):=by
 have hj:=qsz hk
 refine q2r (q7w (qbgo (qwd r _) _) _) (qwd _ _) fun x=>?_
 rw[qbj8,qbf7 hi hok hj,qbbd (r:=(r.1,r.2.1.set j row,())) (qbm6 hok hrow hk ho).1 hi]
 constructor
 ·rintro (h | ⟨k,hk,hkj,h⟩)
  ·exact ⟨row,(q8a hj).2 (.inl rfl),h⟩
  ·exact ⟨_,(q8a hj).2 (.inr ⟨k,hk,hkj,rfl⟩),h⟩
 ·rintro ⟨y,hy,h⟩
  rcases (q8a hj).1 hy with rfl | ⟨k,hk,hkj,rfl⟩
  ·exact .inl h
  ·exact .inr ⟨k,hk,hkj,h⟩
theorem qbls (r:Rel) (row:Row):(∃ k,k≠0∧qcv r row=(r,k))∨(qcv r row=(put r row,0)∧qcl r=true∧qey r.1 row=true∧qfb r (qj row r.1.2.1)=none∧others r row (-1)=false∧r.2.1.length<12):=by
 by_cases hc:qcl r=true∧qey r.1 row=true
 ·cases hk:qfb r (qj row r.1.2.1) with
  | some j=>exact .inl ⟨2,by decide,by unfold qcv;rw[if_pos hc,hk]⟩
  | none=>
   cases ho:others r row (-1)
   ·by_cases hl:(r.2.1.length:Int)≥12
    ·refine .inl ⟨5,by decide,?_⟩
     unfold qcv
     rw[if_pos hc,hk]
     dsimp only
     rw[ho,if_neg Bool.noConfusion,if_pos hl]
    ·exact .inr ⟨qbdu hc.1 hc.2 hk ho hl,hc.1,hc.2,rfl,rfl,by omega⟩
   ·refine .inl ⟨3,by decide,?_⟩
    unfold qcv
    rw[if_pos hc,hk]
    dsimp only
    rw[ho];rfl
 ·exact .inl ⟨1,by decide,by unfold qcv;rw[if_neg hc]⟩
theorem qz3 (r:Rel) (row:Row) (hok:qcl r=true):(∃ k,k≠0∧qgc r row=(r,k))∨∃ j,qgc r row=((r.1,r.2.1.set j row,()),0)∧qey r.1 row=true∧qfb r (qj row r.1.2.1)=some j∧others r row j=false:=by
 by_cases hc:qcl r=true∧qey r.1 row=true
 ·cases hk:qfb r (qj row r.1.2.1) with
  | none=>exact .inl ⟨4,by decide,by unfold qgc;rw[if_pos hc,hk]⟩
  | some j=>
   cases ho:others r row j
   ·exact .inr ⟨j,by unfold qgc;rw[if_pos hc,hk];dsimp only;rw[ho];rfl,hc.2,rfl,ho⟩
   ·exact .inl ⟨3,by decide,by unfold qgc;rw[if_pos hc,hk];dsimp only;rw[ho];rfl⟩
 ·exact .inl ⟨1,by decide,by unfold qgc;rw[if_neg hc]⟩
theorem qbrx {X:Ext} (hI:XI X) (hWI:∀ n xs i ys,qb8 (DD X (n+1)) xs i ys=(insW xs i ys).map fun r=>((r,()),())) (N n:Nat) (hN:W+14≤N) (K0:Bool→Rel→Option ((Bool×Unit)×Unit)) (K1:Rel→Option ((Bool×Unit)×Unit)) (r:Rel) (hr:InvK r) (row:Row) (hw5:row.length≤5) :
  ∀ (m i:Nat),i≤r.1.2.2.1.length→r.1.2.2.1.length - i<m→qhh (DD X N) n K0 K1 m row (i:Int) r=K1 r
 | 0,_,_,h=>by omega
 | m+1,i,hi,hf=>by
  have hC:=hI.toXC
  have hX:=hC.ok
  have hM:=qbt
  have hb:=qcm
  have hsm:=hr.sm
  have hok:=hr.ok
  have hw:row.length≤M:=by omega
  have h3:=hsm.sch.ixs
  have h2:=hsm.rows
  simp only[qhh,qs6]
  by_cases h:i<r.1.2.2.1.length
  ·have ih:=qbrx hI hWI N n hN K0 K1 r hr row hw5 m (i+1) (by omega) (by omega)
   have hin:inR (i:Int) 0 ((r.1.2.2.1.length:Int) - 1)=true:=by unfold inR;rw[decide_eq_true (by omega),decide_eq_true (by omega)];rfl
   have hlen:=qbqd r (i:Int)
   have e1:=qws hC hWI (n:=N) (by omega) r hsm (i:Int)
   have e2:=qbn5 hI (n:=N) (by omega) r hsm row hw
   have e3:=qbeb hX (n:=N) (by omega) r hsm (i:Int) row hw
   have e4:=qgh hX (n:=N) (by omega) r.1 row hw hsm.sch.key
   have e5:=qbng hC (n:=N) (by omega) r hsm (qj row r.1.2.1)
   have e6:=qbeb hX (n:=N) (by omega) r hsm (i:Int) (lookup r (qj row r.1.2.1)).1 (qbqz hsm _)
   have e7:=qbmu hI (n:=N) (by omega) r hsm (qj row r.1.2.1)
   have e8:=qblt hC (n:=N) (by omega) r hsm row hw
   have s8:RelSm (qgc r row).1:=(qbej hr.inv hw5).sm
   have s7:RelSm (qhj r (qj row r.1.2.1)).1:=(qbga hr.inv _).sm
   have s2:RelSm (qcv r row).1:=(qbg2 hr.inv hw5).sm
   rw[qm (by exact_mod_cast h),qp (by omega)]
   simp only[qbjc,e1,e2,e3,e4,e5,e6,e7,e8,qf]
   rcases qbls r row with ⟨k,hk0,er⟩ | ⟨er,_,hrow,hk,ho,h12⟩
   ·-- nothing was put in
    rw[er]
    dsimp only
    rw[qn hk0]
    cases hk:qfb r (qj row r.1.2.1) with
    | none=>
     have l2:lookup r (qj row r.1.2.1)=([],false):=by unfold lookup;rw[hk]
     have l3:qhj r (qj row r.1.2.1)=(r,4):=by unfold qhj;rw[if_pos hok,hk]
     rw[l2,l3]
     rcases qz3 r row hok with ⟨k2,hk2,ep⟩ | ⟨j,_,_,hk2,_⟩
     ·rw[ep]
      dsimp only
      rw[show (!decide (decide ((4:Int)=0)=false))=false from rfl,br_f,br_f,qn hk2]
      exact ih
     ·rw[hk] at hk2;cases hk2
    | some j=>
     have hj:=qsz hk
     have hrj:=((qmz r).1 hok).2.2.1 _ (qbp (d:=[]) hj)
     have l2:lookup r (qj row r.1.2.1)=(r.2.1.getD j [],true):=by unfold lookup;rw[hk];dsimp only;rw[if_pos hok]
     have l3:qhj r (qj row r.1.2.1)=((r.1,r.2.1.take j++r.2.1.drop (j+1),()),0):=by unfold qhj;rw[if_pos hok,hk]
     rw[l3] at s7
     have w1:=qbey (i:=(i:Int)) hrj hin
     rw[Int.toNat_natCast] at w1
     rw[l2,l3]
     dsimp only
     rw[w1]
     dsimp only
     have hd:=qbu8 (qee r (i:Int)) (qez r.1 i (r.2.1.getD j []))
     have d1:=qbnf hX (n:=N) (by omega) (qee r (i:Int)) (by omega) (qez r.1 i (r.2.1.getD j []))
     have d2:=qws hC hWI (n:=N) (by omega) (r.1,r.2.1.take j++r.2.1.drop (j+1),()) s7 (i:Int)
     have d3:=q7v hX (n:=N) (by omega) (del (qee r (i:Int)) (qez r.1 i (r.2.1.getD j []))) (qee (r.1,r.2.1.take j++r.2.1.drop (j+1),()) (i:Int)) (by omega)
     rw[decide_eq_true (qbs1 h hok hj)] at d3
     rw[show (!decide (decide ((0:Int)=0)=true))=false from rfl,br_f,br_t,d1,qf]
     dsimp only
     rw[d2,qf]
     dsimp only
     rw[d3,qf]
     dsimp only
     rw[Bool.not_true,br_f]
     rcases qz3 r row hok with ⟨k2,hk2,ep⟩ | ⟨j2,ep,hrow,hk2,ho⟩
     ·rw[ep]
      dsimp only
      rw[qn hk2]
      exact ih
     ·rw[hk] at hk2
      obtain rfl:j=j2:=Option.some.inj hk2
      rw[ep] at s8
      have w2:=qbey (i:=(i:Int)) hrow hin
      rw[Int.toNat_natCast] at w2
      have hp:=q2q (del (qee r (i:Int)) (qez r.1 i (r.2.1.getD j []))) (qez r.1 i row)
      have d4:=q3n hX hWI (n:=N) (by omega) (del (qee r (i:Int)) (qez r.1 i (r.2.1.getD j []))) (by omega) (qez r.1 i row)
      have d5:=qws hC hWI (n:=N) (by omega) (r.1,r.2.1.set j row,()) s8 (i:Int)
      have h12:=((qmz r).1 hok).2.1
      have d6:=q7v hX (n:=N) (by omega) (qmv (del (qee r (i:Int)) (qez r.1 i (r.2.1.getD j []))) (qez r.1 i row)) (qee (r.1,r.2.1.set j row,()) (i:Int)) (by omega)
      rw[decide_eq_true (qbtz h hok hrow hk ho)] at d6
      rw[ep,w2]
      dsimp only
      rw[qm rfl,qf]
      dsimp only
      rw[d4,qf]
      dsimp only
      rw[d5,qf]
      dsimp only
      rw[d6,qf]
      dsimp only
      rw[Bool.not_true,br_f]
      exact ih
   ·-- it was put in
    rw[er] at s2
    have w2:=qbey (i:=(i:Int)) hrow hin
    rw[Int.toNat_natCast] at w2
    have l2:lookup r (qj row r.1.2.1)=([],false):=by unfold lookup;rw[hk]
    have l3:qhj r (qj row r.1.2.1)=(r,4):=by unfold qhj;rw[if_pos hok,hk]
    have hp:=q2q (qee r (i:Int)) (qez r.1 i row)
    have d4:=q3n hX hWI (n:=N) (by omega) (qee r (i:Int)) (by omega) (qez r.1 i row)
    have d5:=qws hC hWI (n:=N) (by omega) (put r row) s2 (i:Int)
    have d6:=q7v hX (n:=N) (by omega) (qmv (qee r (i:Int)) (qez r.1 i row)) (qee (put r row) (i:Int)) (by omega)
    rw[decide_eq_true (qbt5 h hok hrow hk ho h12)] at d6
    rw[er,w2,l2,l3]
    dsimp only
    rw[qm rfl,Bool.not_true,br_f,d4,qf]
    dsimp only
    rw[d5,qf]
    dsimp only
    rw[d6,qf]
    dsimp only
    rw[Bool.not_true,br_f,show (!decide (decide ((4:Int)=0)=false))=false from rfl,br_f,br_f]
    rcases qz3 r row hok with ⟨k2,hk2,ep⟩ | ⟨j,_,_,hk2,_⟩
    ·rw[ep]
     dsimp only
     rw[qn hk2]
     exact ih
    ·rw[hk] at hk2;cases hk2
  ·rw[qn (by exact_mod_cast h)]
theorem qbit (a:List Int):q17 (DD qoo (W+18)) a=some ((true,()),()):=by
 have hI:=qbr1
 have hC:=hI.toXC
 have hX:=hC.ok
 have hd:=qb0
 have hW:=qb2
 have hM:=qbt
 rw[qbct hX]
 simp only[quf,quh,qqy]
 rw[qbwq hX (by omega),qf];dsimp only
 by_cases h:(a.length:Int)>1048576
 ·rw[decide_eq_true h,br_t]
 ·rw[decide_eq_false h,br_f]
  obtain ⟨r,row,hr,hl,e1⟩:=qbi5 hX (n:=W+17) (by omega) a (by omega)
  rw[e1,qf];dsimp only
  have e2:=qbrx hI qbpi (W+17) (W+17) (by omega) (fun v0_0 v0_1=>qo4 (DD qoo (W+17)) (W+17) v0_0 v0_1) (fun v1_0=>qlg (DD qoo (W+17)) (W+17) v1_0) r hr row hl (W+17) 0 (Nat.zero_le _) (by have:=hr.sm.sch.ixs;omega)
  rw[show ((0:Nat):Int)=0 from rfl] at e2
  rw[e2]
  simp only[qlg]
  rw[qqp hC (by omega) r hr.sm,qf,hr.ok]
end Go.G
namespace Go.Proofs.YtfafjngknkbngaaGreat
open Go.ChangeShapes Go.WideShapes Go.ChangeAt Go.RowKit Go.V Go.G
set_option maxRecDepth 100000
theorem fnWaysKept_lifted (os:Os) (started:os.Started) (H:Type) (enc:TypeId×Value→H) :
  ReturnsInHanded {} Tryz.checked os 4 .any (Rows.fnWaysKeptSpec.pre6 enc Tryz.prog Tryz.f4 Rows.fnWaysKeptRow.domain false) (Rows.fnWaysKeptSpec.post enc Tryz.prog Tryz.f4 false true false false):=
 qbrm (X:=qoo) (tb:=4) started Tryz.func4 (by kernel_rfl)
  (ChangeSpec.witness6 (enc:=enc) (C:=Tryz.checked) false ⟨#[],Tryz.f4.params.map fun t=>((Tryz.prog.info? t).bind (·.zero)).getD .nilIface,[]⟩ 8 (by kernel_rfl) (by kernel_rfl) (by kernel_rfl) (by kernel_rfl))
  ⟨rfl,rfl,trivial⟩ (by kernel_rfl) (by kernel_rfl) (by kernel_rfl) rfl
  (fun ds h=>by
   match ds,h with
   | [d0],_=>exact ⟨rfl,rfl,rfl⟩)
  (fun a wa=>⟨W+18,((true,()),()),qbit a.1,fun h Pr Gs us k=>by
   obtain ⟨v,vs,rfl,⟨c,r,rfl⟩,e⟩:=k
   obtain rfl:vs=[]:=e
   simp only[Rep] at r
   subst r
   rfl⟩)
theorem fnWaysKept_holds:Rows.FnWaysKeptSaid:=
 OpenClaim.holds_of_wide 4 Tryz.f4 rfl rfl rfl rfl rfl rfl rfl ⟨rfl,rfl,rfl,rfl,rfl⟩ rfl rfl rfl rfl rfl (by kernel_rfl) Tryz.func4 (by kernel_rfl)
  (of_decide_eq_true (by kernel_rfl)) (by unfold Func.isWrapper;first | (rw[if_pos (by decide +kernel)];kernel_rfl) | (rw[if_neg (by decide +kernel)];exact ⟨rfl,rfl⟩))
  (fun os started H enc _=>fnWaysKept_lifted os started H enc)
#print axioms fnWaysKept_holds
end Go.Proofs.YtfafjngknkbngaaGreat


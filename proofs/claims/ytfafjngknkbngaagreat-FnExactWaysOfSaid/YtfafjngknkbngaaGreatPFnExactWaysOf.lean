/- The row FnExactWaysOf holds: for all arguments the law returns true and the arguments read as before. No condition. -/
import Derived.Lib.AppendZerosOnto
import Derived.Laws.Externs
import Derived.Lib.Overlaps
import Derived.Test.YtfafjngknkbngaaGreatAPFnExactWaysOf2
set_option linter.unusedVariables false
set_option linter.unusedSimpArgs false
set_option linter.unusedSectionVars false
namespace Go.V
set_option maxRecDepth 100000
open Go Go.Proofs Go.RowKit
abbrev TWay:Ty:=.pair .str (.pair .str .unit)
abbrev SigW:Sig:=⟨[.own (.sl TWay) (Mk.top (.sl TWay)),.val (.int .i64),.own (.sl TWay) (Mk.top (.sl TWay))],[.val (.sl TWay) (Mk.top (.sl TWay))]⟩
theorem sigW:ctx.sig 93=SigW:=by kernel_rfl
def insW (xs:List TWay.den) (i:Int) (ys:List TWay.den):Option (List TWay.den):=if 0≤i∧i≤xs.length∧0<ys.length∧xs.length+ys.length≤qbc then some (xs.take i.toNat++ys++xs.drop i.toNat) else none
theorem qv2 {P:Program} (w:World) (dT sT ty elem:TypeId) {i:TypeInfo} (b o dLen dCap:Nat) (a:Addr) (sLen sCap:Nat) (cs:List Value)
  (hu:P.underlying dT=some (.slice elem)) (hi:P.info? elem=some i) (hn:Nat.min sLen dLen * i.size=cs.length)
  (hsrc:∀ j v,cs[j]? = some v→w.cell? (a.add j)=some v) (hc:∀ j,j<cs.length→(w.cell? ⟨b,o+j,none⟩).isSome=true) (hf:∀ j,j<cs.length→w.frozen? ⟨b,o+j,none⟩=false) (h1:∀ v∈cs,v.oneCell'=true) :
  (Builtin.copy_ #[dT,sT] ty #[.slice (some ⟨b,o,none⟩) dLen dCap,.slice (some a) sLen sCap]).run P w=.ok (goInt (Nat.min sLen dLen)) (w.setCells b o cs):=by
 have hl:=run_loadCells_list (P:=P) w a cs hsrc
 have hst:=run_storeCells_cells (P:=P) b o cs 0 w (by simpa using hc) (by simpa using hf) h1
 simp[Builtin.copy_,run_underlying hu,Builtin.lenOf,Builtin.firstCells,sizeOf,typeInfo,hi,hn,hl,hst]
theorem El.all {h:Array Obj} {Pr:BS} {e:Ty} {mi:Mk} {xs:List e.den} {cells:List Value} {F:Nat→BS} (el:El h Pr e mi xs cells F) (hw:0<e.width) (hl:cells.length=xs.length * e.width):∀ u∈cells,u.oneCell'=true:=by
 intro u hu
 obtain ⟨k,hk,rfl⟩:=List.getElem_of_mem hu
 have hk2:k / e.width<xs.length:=by rw[Nat.div_lt_iff_lt_mul hw];omega
 have r:=el.rep (k / e.width) hk2
 refine Rep.one _ r _ ?_
 rw[List.mem_iff_getElem?]
 refine ⟨k % e.width,?_⟩
 have e1:k / e.width * e.width+k % e.width=k:=by rw[Nat.mul_comm];exact Nat.div_add_mod k e.width
 rw[List.getElem?_take,if_pos (Nat.mod_lt _ hw),List.getElem?_drop,e1,List.getElem?_eq_getElem]
theorem qbzb:qbl5 Tryz.prog SigW 93 fun a=>(insW a.1 a.2.1 a.2.2.1).map fun r=>((r,()),()):=by
 intro a r h w Pr Fs vs pre
 obtain ⟨xs,i,ys,⟨⟩⟩:=a
 change List TWay.den at xs
 change Int at i
 change List TWay.den at ys
 obtain ⟨v1,vs1,rfl,⟨c1,rep1,rfl⟩,v2,vs2,rfl,⟨c2,r2,rfl⟩,v3,vs3,rfl,⟨c3,rep3,rfl⟩,k3⟩:=pre.rel
 obtain rfl:vs3=[]:=k3
 simp only[Rep] at r2
 subst r2
 dsimp only at h
 unfold insW at h
 split at h
 ·rename_i hc
  obtain ⟨h0,hi,hm,hbd⟩:=hc
  replace h0:0≤i:=h0
  replace hi:i≤xs.length:=hi
  replace hm:0<ys.length:=hm
  replace hbd:xs.length+ys.length≤274877906944:=hbd
  simp only[Option.map_some,Option.some.injEq] at h
  subst h
  obtain ⟨i,rfl⟩:=Int.eq_ofNat_of_zero_le h0
  have hi2:i≤xs.length:=by omega
  obtain ⟨ad1,cap1,cells1,F1,rfl,hl1,hlc1,hsrc1,el1,hF1,hown1⟩:=qnt (by simp[Mk.top]) (by simp[Mk.top]) rep1
  obtain ⟨ad2,cap2,cells2,F2,rfl,hl2,hlc2,hsrc2,el2,hF2,hown2⟩:=qnt (by simp[Mk.top]) (by simp[Mk.top]) rep3
  have hw1:TWay.width=2:=rfl
  replace hlc1:xs.length≤cap1:=hlc1
  replace hlc2:ys.length≤cap2:=hlc2
  have hl1':cells1.length=xs.length * 2:=by rw[hl1,hw1]
  have hl2':cells2.length=ys.length * 2:=by rw[hl2,hw1]
  rcases hown2 0 _ rfl with hc0 | ⟨b2,cs2,rfl,hbF2,hbo2,hcapb2,hFb2,hcells2⟩
  ·exact absurd hc0 (by omega)
  replace hcapb2:cap2 * 2≤cs2.size:=by rw[hw1] at hcapb2;exact hcapb2
  replace hcells2:cells2=sub cs2 0 (ys.length * 2):=by rw[hcells2,hw1]
  have hd12:∀ p q,Dis (F1 p) (F2 q):=fun p q=>(pre.dis 0 2 (by decide)).mono (hF1 p) (hF2 q)
  obtain ⟨FF,elz,hFF⟩:=El.insert el1 el2 i hi2 (by rw[hl1]) (by rw[hl2]) hd12
  rw[hw1] at elz
  have hFs:∀ t b,FF t b→∃ k,Fs k b:=fun t b hb=>by
   rcases hFF t b hb with ⟨c,hc⟩ | ⟨c,hc⟩
   ·exact ⟨0,hF1 c b hc⟩
   ·exact ⟨2,hF2 c b hc⟩
  have hlz:(xs.take i++ys++xs.drop i).length=xs.length+ys.length:=by simp only[List.length_append,List.length_take,List.length_drop];omega
  have hone1:=el1.all (by decide) hl1
  have hone2:=el2.all (by decide) hl2
  have uT:Tryz.prog.underlying 35=some (.slice 42):=by kernel_rfl
  have u3:Tryz.prog.underlying 3=some (.int .i64):=by kernel_rfl
  obtain ⟨i0,z0,hi0,hs0,hz0,hzs,hb0⟩:∃ i0 z0,Tryz.prog.info? 42=some i0∧i0.size=2∧i0.zero=some z0∧z0.cells.size=2∧i0.bytes=32:=by
   have k:((Tryz.prog.info? 42).map fun x=>(x.size,x.zero.map (·.cells.size),x.bytes))=some (2,some 2,32):=by kernel_rfl
   cases h:Tryz.prog.info? 42 with
   | none=>rw[h] at k;cases k
   | some x=>
    rw[h] at k
    simp only[Option.map_some,Option.some.injEq,Prod.mk.injEq] at k
    cases hz:x.zero with
    | none=>rw[hz] at k;cases k.2.1
    | some z=>
     rw[hz] at k
     simp only[Option.map_some,Option.some.injEq] at k
     exact ⟨x,z,rfl,k.1,hz,k.2.1,k.2.2⟩
  have hn2:(Builtin.firstCells i0.size ys.length (.slice (some ⟨b2,0,none⟩) ys.length cap2)).run Tryz.prog w=.ok cells2.toArray w:=by
   rw[hs0]
   exact qgk hl2' (.inr ⟨b2,0,rfl,by rw[hcells2];exact qbx hbo2.blk (by omega)⟩)
  have ht0:cells1.take (xs.length * 2)=cells1:=List.take_of_length_le (by omega)
  have hd0:cells1.drop (xs.length * 2)=[]:=List.drop_eq_nil_of_le (by omega)
  have houts:∀ (h:Array Obj) (v1 v2 v3:Value),qfk h Pr (fun _=>Nil) 0 SigW.params () [v1,v2,v3]:=fun h v1 v2 v3=>⟨_,_,rfl,_,_,rfl,_,_,rfl,rfl⟩
  by_cases hend:i=xs.length
  ·subst hend
   rw[ht0,hd0,List.append_nil] at elz
   by_cases hroom:xs.length+ys.length≤cap1
   ·rcases hown1 0 _ rfl with hc0 | ⟨b1,cs1,rfl,hbF1,hbo1,hcapb1,hFb1,hcells1⟩
    ·exact absurd hc0 (by omega)
    replace hcapb1:cap1 * 2≤cs1.size:=by rw[hw1] at hcapb1;exact hcapb1
    replace hcells1:cells1=sub cs1 0 (xs.length * 2):=by rw[hcells1,hw1]
    have hfit:xs.length * 2+cells2.length≤cs1.size:=by omega
    have hr:∀ ty,(Builtin.append_ #[35,35] ty #[.slice (some ⟨b1,0,none⟩) xs.length cap1,.slice (some ⟨b2,0,none⟩) ys.length cap2]).run Tryz.prog w=.ok (.slice (some ⟨b1,0,none⟩) (xs.length+ys.length) cap1) (w.setCells b1 (xs.length * 2) cells2):=fun ty=>
     qld (P:=Tryz.prog) w (ty:=ty) rfl rfl uT uT hi0 hn2 hroom (fun ad e=>by
      simp only[Option.some.injEq] at e
      subst e
      rw[Addr.add_mid,Nat.zero_add,hs0]
      have th:=qel (w:=w) (o:=xs.length * 2) (n:=cells2.length) hbo1 hfit
      have:=run_storeCells_cells (P:=Tryz.prog) b1 (xs.length * 2) cells2 0 w (fun t ht=>by simpa using (th t ht).1) (fun t ht=>by simpa using (th t ht).2) hone2
      simpa using this) (fun e=>by simp at e)
    obtain ⟨ty,lo,hi',he,hfz⟩:=hbo1
    obtain ⟨cs3,hcs3,hcs3l⟩:=qde cells2 (xs.length * 2) w cs1 he hfit
    have hsz3:cs3.size=cs1.size:=by rw[←Array.length_toList,hcs3l,qcj (by simpa using hfit),Array.length_toList]
    have hob3:qbi (w.setCells b1 (xs.length * 2) cells2).heap b1 cs3:=⟨ty,lo,hi',hcs3,fun t ht=>hfz t (by omega)⟩
    have h7:cs1.toList.length=cs1.size:=Array.length_toList
    have htake:cs3.toList.take ((xs.take xs.length++ys++xs.drop xs.length).length * TWay.width)=cells1++cells2:=by
     rw[hw1,hlz,hcs3l,hcells1]
     simp only[repl,sub,List.drop_zero]
     rw[List.take_append_of_le_length (by rw[List.length_append,List.length_take,hl2'];omega),List.take_of_length_le (by rw[List.length_append,List.length_take,hl2'];omega)]
    have hrest:=qch (b:=b1) cells2 (xs.length * 2) w
    have hFBb:∀ t,¬ FF t b1:=fun t hb=>by
     rcases hFF t b1 hb with ⟨c,hc⟩ | ⟨c,hc⟩
     ·exact hFb1 c hc
     ·exact pre.dis 0 2 (by decide) b1 hbF1 (hF2 c b1 hc)
    refine (qbq6 (some ⟨b1,0,none⟩) xs.length cap1 ys.length (some ⟨b2,0,none⟩) cap2 w _ _ hm hlc1 (.inl ⟨b1,rfl⟩) hr).mono ?_
    rintro e w' ⟨rfl,rfl⟩
    obtain ⟨val,Pr',Gs,Os,us,hv,hp⟩:=qxu pre elz hFs hob3 (cap:=cap1) (by rw[hw1];omega) (by rw[hlz];exact hroom) htake (.inr ⟨0,hbF1⟩) hFBb (fun b' _ hb'=>qbk cells2 _ w b' hb') (by rw[qba];exact Nat.le_refl _) (by rw[qba];exact pre.lim 0 b1 hbF1) hrest.1 hrest.2.1 hrest.2.2 () (houts _ _ _ _)
    exact ⟨val,Pr',Gs,Os,us,by rw[←hv,hlz],hp⟩
   ·have hg:cap1<xs.length+ys.length:=by omega
    have hn2d:(Builtin.firstCells i0.size ys.length (.slice (some ⟨b2,0,none⟩) ys.length cap2)).run Tryz.prog w.drew=.ok cells2.toArray w.drew:=by
     rw[hs0]
     exact qgk hl2' (.inr ⟨b2,0,rfl,qdb (by rw[hcells2];exact qbx hbo2.blk (by omega))⟩)
    have hn1d:(Builtin.firstCells i0.size xs.length (.slice ad1 xs.length cap1)).run Tryz.prog w.drew=.ok cells1.toArray w.drew:=by
     rw[hs0]
     refine qgk hl1' ?_
     rcases hsrc1 with ⟨h1,h2⟩ | ⟨b,o,cs,h1,h2,h3,h4⟩
     ·exact .inl ⟨h1,h2⟩
     ·exact .inr ⟨b,o,h1,qdb (h4 ▸ qbx h2 h3)⟩
    have hfit:Builtin.nextslicecap (xs.length+ys.length) cap1 * i0.bytes≤281474976710656:=by
     have:=Room.nextslicecap_le' (need:=xs.length+ys.length) (old:=cap1) hg
     rw[hb0];omega
    have hr:=fun ty=>qx5 (P:=Tryz.prog) w (ats:=#[35,35]) (ty:=ty) rfl rfl uT uT hi0 hz0 hn2d hn1d hg (by omega) hfit
    have hge:=grownCap_ge w (xs.length+ys.length) cap1 42
    generalize grownCap w (xs.length+ys.length) cap1 42=cap' at hr hge
    have hcss:(cells1.toArray++cells2.toArray++Builtin.zeroCells z0.cells (cap' - (xs.length+ys.length))).size=cap' * 2:=by
     simp only[Array.size_append,List.size_toArray,size_zeroCells,hzs,hl1',hl2'];omega
    have htk:(cells1.toArray++cells2.toArray++Builtin.zeroCells z0.cells (cap' - (xs.length+ys.length))).toList.take ((xs.length+ys.length) * 2)=cells1++cells2:=by
     simp only[Array.toList_append,List.append_assoc]
     rw[←List.append_assoc,List.take_append_of_le_length (by rw[List.length_append];omega),List.take_of_length_le (by rw[List.length_append];omega)]
    generalize cells1.toArray++cells2.toArray++Builtin.zeroCells z0.cells (cap' - (xs.length+ys.length))=cs at hr hcss htk
    have h1a:(∃ b,ad1=some ⟨b,0,none⟩)∨(xs.length=0∧cap1=0):=by
     rcases hown1 0 _ rfl with hc0 | ⟨b1,cs1,rfl,_⟩
     ·exact .inr ⟨by omega,hc0⟩
     ·exact .inl ⟨b1,rfl⟩
    refine (qbq6 ad1 xs.length cap1 ys.length (some ⟨b2,0,none⟩) cap2 w _ _ hm hlc1 h1a hr).mono ?_
    rintro e w' ⟨rfl,rfl⟩
    obtain ⟨val,Pr',Gs,Os,us,hv,hp⟩:=qxu (w2:=w.drew.alloc (.cells cs 42)) pre elz hFs (B:=w.heap.size) (cs:=cs) qbi.new (cap:=cap') (by rw[hw1,hcss];exact Nat.le_refl _) (by rw[hlz];exact hge) (by rw[hw1,hlz];exact htk) (.inl rfl)
     (fun t hb=>by obtain ⟨k,hk⟩:=hFs t _ hb;exact Nat.lt_irrefl _ (pre.lim k _ hk)) (fun b' hb1 _=>qhf b' hb1) (by show w.heap.size≤(w.heap.push _).size;simp) (by show w.heap.size<(w.heap.push _).size;simp) rfl rfl rfl () (houts _ _ _ _)
    exact ⟨val,Pr',Gs,Os,us,by rw[←hv,hlz],hp⟩
  ·have hlt:i<xs.length:=by omega
   rcases hown1 0 _ rfl with hc0 | ⟨b1,cs1,rfl,hbF1,hbo1,hcapb1,hFb1,hcells1⟩
   ·exact absurd hc0 (by omega)
   replace hcapb1:cap1 * 2≤cs1.size:=by rw[hw1] at hcapb1;exact hcapb1
   replace hcells1:cells1=sub cs1 0 (xs.length * 2):=by rw[hcells1,hw1]
   have hb12:b2≠b1:=fun e=>pre.dis 0 2 (by decide) b1 hbF1 (e ▸ hbF2)
   have hcd:cells1.drop (i * 2)=sub cs1 (i * 2) ((xs.length - i) * 2):=by
    rw[hcells1]
    simp only[sub,List.drop_zero,List.drop_take]
    congr 1;omega
   have hct:cells1.take (i * 2)=cs1.toList.take (i * 2):=by
    rw[hcells1]
    simp only[sub,List.drop_zero,List.take_take]
    congr 1;omega
   have hdl:(cells1.drop (i * 2)).length=(xs.length - i) * 2:=by rw[List.length_drop,hl1'];omega
   have honed:∀ u∈cells1.drop (i * 2),u.oneCell'=true:=fun u hu=>hone1 u (List.mem_of_mem_drop hu)
   have hFBb:∀ t,¬ FF t b1:=fun t hb=>by
    rcases hFF t b1 hb with ⟨c,hc⟩ | ⟨c,hc⟩
    ·exact hFb1 c hc
    ·exact pre.dis 0 2 (by decide) b1 hbF1 (hF2 c b1 hc)
   by_cases hroom:xs.length+ys.length≤cap1
   ·have hov:∀ lb cb,(callFunc 156 #[.slice (some ⟨b2,0,none⟩) ys.length cap2,.slice (some ⟨b1,(i+ys.length) * 2,none⟩) lb cb]).run Tryz.prog w=.ok (.value (.bool false)) w:=by
     intro lb cb
     obtain ⟨e2,lo2,hi2,he2,hf2⟩:=hbo2
     obtain ⟨e1,lo1,hi1,he1,hf1⟩:=hbo1
     have hnf:∀ k,k≤cs2.size→w.frozen? ⟨b2,k,none⟩=false:=fun k hk=>by
      have:=hf2 k hk
      simp only[World.frozen?,he2]
      simpa using this
     rw[run_callFunc_extern (P:=Tryz.prog) (f:=156) (fn:=Tryz.f156) Tryz.func156 (by kernel_rfl) (by kernel_rfl) (by kernel_rfl) (e:=Extern.SlicesOverlaps.overlaps #[35,35] #[4]) (by kernel_rfl),
      Lib.run_overlaps_apart w 35 4 42 uT 2 (fun w=>by simp[sizeOf,typeInfo,hi0,hs0]) ⟨b2,0,none⟩ ⟨b1,(i+ys.length) * 2,none⟩ ys.length cap2 lb cb hb12 e2 e1 cs2.size cs1.size (by simp[World.shape?,he2]) (by simp[World.shape?,he1]) (by omega) (hnf 0 (by omega)) (hnf _ (Nat.le_refl _))]
     rfl
    have hfitA:(i+ys.length) * 2+(cells1.drop (i * 2)).length≤cs1.size:=by rw[hdl];omega
    have thA:=qel (w:=w) (o:=(i+ys.length) * 2) (n:=(cells1.drop (i * 2)).length) hbo1 hfitA
    have hB:∀ ty dc sc,(Builtin.copy_ #[35,35] ty #[.slice (some ⟨b1,(i+ys.length) * 2,none⟩) (xs.length+ys.length - (i+ys.length)) dc,.slice (some ⟨b1,i * 2,none⟩) (xs.length+ys.length - i) sc]).run Tryz.prog w.drew=.ok (goInt (Nat.min (xs.length+ys.length - i) (xs.length+ys.length - (i+ys.length)))) (w.drew.setCells b1 ((i+ys.length) * 2) (cells1.drop (i * 2))):=fun ty dc sc=>
     qv2 w.drew 35 35 ty 42 b1 ((i+ys.length) * 2) _ dc ⟨b1,i * 2,none⟩ _ sc (cells1.drop (i * 2)) uT hi0 (by rw[hdl,hs0];simp only[Nat.min_def];split<;>omega)
      (fun k v hk=>by rw[Addr.add_mid];exact qdb (w:=w) (b:=b1) (o:=i * 2) (cs:=cells1.drop (i * 2)) (by rw[hcd];exact qbx hbo1.blk (by omega)) k v hk) (fun k hk=>(thA k hk).1) (fun k hk=>(thA k hk).2) honed
    obtain ⟨ty,lo,hi',he,hfz⟩:=hbo1
    obtain ⟨cs3,hcs3,hcs3l⟩:=qde (cells1.drop (i * 2)) ((i+ys.length) * 2) w.drew cs1 he hfitA
    have hsz3:cs3.size=cs1.size:=by rw[←Array.length_toList,hcs3l,qcj (by simpa using hfitA),Array.length_toList]
    have hob3:qbi (w.drew.setCells b1 ((i+ys.length) * 2) (cells1.drop (i * 2))).heap b1 cs3:=⟨ty,lo,hi',hcs3,fun t ht=>hfz t (by omega)⟩
    have hfitB:i * 2+cells2.length≤cs3.size:=by omega
    have thB:=qel (w:=w.drew.setCells b1 ((i+ys.length) * 2) (cells1.drop (i * 2))) (o:=i * 2) (n:=cells2.length) hob3 hfitB
    have hr2:(w.drew.setCells b1 ((i+ys.length) * 2) (cells1.drop (i * 2))).rangeAt b2 0 cells2:=by
     rw[hcells2]
     exact qbx (Blk.congr hbo2.blk (qbk (cells1.drop (i * 2)) _ w.drew b2 hb12)) (by omega)
    have hC:∀ ty dc,(Builtin.copy_ #[35,35] ty #[.slice (some ⟨b1,i * 2,none⟩) (xs.length+ys.length - i) dc,.slice (some ⟨b2,0,none⟩) ys.length cap2]).run Tryz.prog (w.drew.setCells b1 ((i+ys.length) * 2) (cells1.drop (i * 2)))=.ok (goInt (Nat.min ys.length (xs.length+ys.length - i))) ((w.drew.setCells b1 ((i+ys.length) * 2) (cells1.drop (i * 2))).setCells b1 (i * 2) cells2):=fun ty dc=>
     qv2 _ 35 35 ty 42 b1 (i * 2) _ dc ⟨b2,0,none⟩ _ cap2 cells2 uT hi0 (by rw[hl2',hs0];simp only[Nat.min_def];split<;>omega)
      (fun k v hk=>by rw[Addr.add_mid];exact hr2 k v hk) (fun k hk=>(thB k hk).1) (fun k hk=>(thB k hk).2) hone2
    obtain ⟨cs4,hcs4,hcs4l⟩:=qde cells2 (i * 2) _ cs3 hcs3 hfitB
    have hsz4:cs4.size=cs3.size:=by rw[←Array.length_toList,hcs4l,qcj (by simpa using hfitB),Array.length_toList]
    have hob4:qbi ((w.drew.setCells b1 ((i+ys.length) * 2) (cells1.drop (i * 2))).setCells b1 (i * 2) cells2).heap b1 cs4:=⟨ty,lo,hi',hcs4,fun t ht=>hfz t (by omega)⟩
    have h7:cs1.toList.length=cs1.size:=Array.length_toList
    have htake:cs4.toList.take ((xs.take i++ys++xs.drop i).length * TWay.width)=cells1.take (i * 2)++cells2++cells1.drop (i * 2):=by
     have e:=qbyn (l:=cs1.toList) (D:=cells1.drop (i * 2)) (C:=cells2) (i:=i * 2) (m:=ys.length * 2) hl2' (by rw[h7,←Nat.add_mul];exact hfitA)
     rw[hw1,hlz,hcs4l,hcs3l,hct,Nat.add_mul i]
     rw[show (xs.length+ys.length) * 2=i * 2+ys.length * 2+(cells1.drop (i * 2)).length by rw[hdl];omega]
     exact e
    have hrest1:=qch (b:=b1) (cells1.drop (i * 2)) ((i+ys.length) * 2) w.drew
    have hrest2:=qch (b:=b1) cells2 (i * 2) (w.drew.setCells b1 ((i+ys.length) * 2) (cells1.drop (i * 2)))
    have hsize:((w.drew.setCells b1 ((i+ys.length) * 2) (cells1.drop (i * 2))).setCells b1 (i * 2) cells2).heap.size=w.heap.size:=by rw[qba,qba];rfl
    refine (qbuv b1 xs.length cap1 i ys.length ⟨b2,0,none⟩ cap2 w _ _ _ _ hlt hm hroom (by omega) hov hB hC).mono ?_
    rintro e w' ⟨rfl,rfl⟩
    obtain ⟨val,Pr',Gs,Os,us,hv,hp⟩:=qxu pre elz hFs hob4 (cap:=cap1) (by rw[hw1];omega) (by rw[hlz];exact hroom) htake (.inr ⟨0,hbF1⟩) hFBb
     (fun b' _ hb'=>(qbk cells2 _ _ b' hb').trans (qbk (cells1.drop (i * 2)) _ w.drew b' hb')) (by rw[hsize];exact Nat.le_refl _) (by rw[hsize];exact pre.lim 0 b1 hbF1) (hrest2.1.trans hrest1.1) (hrest2.2.1.trans hrest1.2.1) (hrest2.2.2.trans hrest1.2.2) () (houts _ _ _ _)
    exact ⟨val,Pr',Gs,Os,us,by rw[←hv,hlz],hp⟩
   ·have hg:cap1<xs.length+ys.length:=by omega
    obtain ⟨K,hK⟩:∃ K,K=xs.length+ys.length - i:=⟨_,rfl⟩
    have hKi:i+K=xs.length+ys.length:=by omega
    have hn1d:(Builtin.firstCells i0.size i (.slice (some ⟨b1,0,none⟩) i cap1)).run Tryz.prog w.drew=.ok (cells1.take (i * 2)).toArray w.drew:=by
     rw[hs0]
     refine qgk (by rw[List.length_take,hl1'];omega) (.inr ⟨b1,0,rfl,qdb ?_⟩)
     have e:cells1.take (i * 2)=sub cs1 0 (i * 2):=by rw[hct];simp only[sub,List.drop_zero]
     rw[e];exact qbx hbo1.blk (by omega)
    have hfit:Builtin.nextslicecap (i+K) cap1 * i0.bytes≤281474976710656:=by
     have:=Room.nextslicecap_le' (need:=i+K) (old:=cap1) (by omega)
     rw[hb0];omega
    have hr:=fun ty=>Lib.run_append_grow_zeros (P:=Tryz.prog) w 35 3 ty 42 i0 _ .i64 .i64 uT u3 hi0 hz0 (some ⟨b1,0,none⟩) i cap1 (cells1.take (i * 2)) hn1d K (by omega) (by omega) (by omega) (by omega) (by rw[hb0];omega) hfit
    have hge:=grownCap_ge w (i+K) cap1 42
    generalize grownCap w (i+K) cap1 42=cap' at hr hge
    have hcss:((cells1.take (i * 2)).toArray++Builtin.zeroCells z0.cells K++Builtin.zeroCells z0.cells (cap' - (i+K))).size=cap' * 2:=by
     simp only[Array.size_append,List.size_toArray,size_zeroCells,hzs,List.length_take,hl1'];omega
    have htk:((cells1.take (i * 2)).toArray++Builtin.zeroCells z0.cells K++Builtin.zeroCells z0.cells (cap' - (i+K))).toList.take (i * 2)=cells1.take (i * 2):=by
     simp only[Array.toList_append,List.append_assoc]
     rw[List.take_append_of_le_length (by rw[List.length_take,hl1'];omega),List.take_of_length_le (by rw[List.length_take,hl1'];omega)]
    generalize (cells1.take (i * 2)).toArray++Builtin.zeroCells z0.cells K++Builtin.zeroCells z0.cells (cap' - (i+K))=cs0 at hr hcss htk
    rw[hKi] at hr hge
    have hKI:((K:Nat):Int)=(xs.length:Int)+(ys.length:Int) - (i:Int):=by omega
    rw[hKI] at hr
    have hob0:qbi (w.drew.alloc (.cells cs0 42)).heap w.heap.size cs0:=qbi.new
    have hb1lt:=pre.lim 0 b1 hbF1
    have hb2lt:=pre.lim 2 b2 hbF2
    have hb1B:b1≠w.heap.size:=by omega
    have hb2B:b2≠w.heap.size:=by omega
    have hold:∀ b',b'<w.heap.size→(w.drew.alloc (.cells cs0 42)).heap[b']? = w.heap[b']?:=fun b' hb'=>qhf b' hb'
    have hfitA:i * 2+cells2.length≤cs0.size:=by omega
    have thA:=qel (w:=w.drew.alloc (.cells cs0 42)) (o:=i * 2) (n:=cells2.length) hob0 hfitA
    have hr2:(w.drew.alloc (.cells cs0 42)).rangeAt b2 0 cells2:=by
     rw[hcells2]
     exact qbx (Blk.congr hbo2.blk (hold b2 hb2lt)) (by omega)
    have hB:∀ ty,(Builtin.copy_ #[35,35] ty #[.slice (some ⟨w.heap.size,i * 2,none⟩) (xs.length+ys.length - i) (cap' - i),.slice (some ⟨b2,0,none⟩) ys.length cap2]).run Tryz.prog (w.drew.alloc (.cells cs0 42))=.ok (goInt (Nat.min ys.length (xs.length+ys.length - i))) ((w.drew.alloc (.cells cs0 42)).setCells w.heap.size (i * 2) cells2):=fun ty=>
     qv2 _ 35 35 ty 42 w.heap.size (i * 2) _ _ ⟨b2,0,none⟩ _ cap2 cells2 uT hi0 (by rw[hl2',hs0];simp only[Nat.min_def];split<;>omega)
      (fun k v hk=>by rw[Addr.add_mid];exact hr2 k v hk) (fun k hk=>(thA k hk).1) (fun k hk=>(thA k hk).2) hone2
    obtain ⟨ty,lo,hi',he,hfz⟩:=hob0
    obtain ⟨cs3,hcs3,hcs3l⟩:=qde cells2 (i * 2) (w.drew.alloc (.cells cs0 42)) cs0 he hfitA
    have h7:cs0.toList.length=cs0.size:=Array.length_toList
    have hsz3:cs3.size=cs0.size:=by rw[←Array.length_toList,hcs3l,qcj (by simpa using hfitA),Array.length_toList]
    have hob3:qbi ((w.drew.alloc (.cells cs0 42)).setCells w.heap.size (i * 2) cells2).drew.heap w.heap.size cs3:=⟨ty,lo,hi',hcs3,fun t ht=>hfz t (by omega)⟩
    have hfitB:(i+ys.length) * 2+(cells1.drop (i * 2)).length≤cs3.size:=by rw[hdl];omega
    have thB:=qel (w:=((w.drew.alloc (.cells cs0 42)).setCells w.heap.size (i * 2) cells2).drew) (o:=(i+ys.length) * 2) (n:=(cells1.drop (i * 2)).length) hob3 hfitB
    have hr1:((w.drew.alloc (.cells cs0 42)).setCells w.heap.size (i * 2) cells2).drew.rangeAt b1 (i * 2) (cells1.drop (i * 2)):=by
     rw[hcd]
     exact qdb (qbx (Blk.congr hbo1.blk ((qbk cells2 _ _ b1 hb1B).trans (hold b1 hb1lt))) (by omega))
    have hC:∀ ty,(Builtin.copy_ #[35,35] ty #[.slice (some ⟨w.heap.size,(i+ys.length) * 2,none⟩) (xs.length+ys.length - (i+ys.length)) (cap' - (i+ys.length)),.slice (some ⟨b1,i * 2,none⟩) (xs.length - i) (cap1 - i)]).run Tryz.prog ((w.drew.alloc (.cells cs0 42)).setCells w.heap.size (i * 2) cells2).drew=.ok (goInt (Nat.min (xs.length - i) (xs.length+ys.length - (i+ys.length)))) (((w.drew.alloc (.cells cs0 42)).setCells w.heap.size (i * 2) cells2).drew.setCells w.heap.size ((i+ys.length) * 2) (cells1.drop (i * 2))):=fun ty=>
     qv2 _ 35 35 ty 42 w.heap.size ((i+ys.length) * 2) _ _ ⟨b1,i * 2,none⟩ _ _ (cells1.drop (i * 2)) uT hi0 (by rw[hdl,hs0];simp only[Nat.min_def];split<;>omega)
      (fun k v hk=>by rw[Addr.add_mid];exact hr1 k v hk) (fun k hk=>(thB k hk).1) (fun k hk=>(thB k hk).2) honed
    obtain ⟨cs4,hcs4,hcs4l⟩:=qde (cells1.drop (i * 2)) ((i+ys.length) * 2) ((w.drew.alloc (.cells cs0 42)).setCells w.heap.size (i * 2) cells2).drew cs3 hcs3 hfitB
    have hsz4:cs4.size=cs3.size:=by rw[←Array.length_toList,hcs4l,qcj (by simpa using hfitB),Array.length_toList]
    have hob4:qbi (((w.drew.alloc (.cells cs0 42)).setCells w.heap.size (i * 2) cells2).drew.setCells w.heap.size ((i+ys.length) * 2) (cells1.drop (i * 2))).heap w.heap.size cs4:=⟨ty,lo,hi',hcs4,fun t ht=>hfz t (by omega)⟩
    have htake:cs4.toList.take ((xs.take i++ys++xs.drop i).length * TWay.width)=cells1.take (i * 2)++cells2++cells1.drop (i * 2):=by
     have e:=qbyg (l:=cs0.toList) (D:=cells1.drop (i * 2)) (C:=cells2) (i:=i * 2) (m:=ys.length * 2) hl2' (by rw[h7];omega)
     rw[hw1,hlz,hcs4l,hcs3l,←htk,Nat.add_mul i]
     rw[show (xs.length+ys.length) * 2=i * 2+ys.length * 2+(cells1.drop (i * 2)).length by rw[hdl];omega]
     exact e
    have hrest1:=qch (b:=w.heap.size) cells2 (i * 2) (w.drew.alloc (.cells cs0 42))
    have hrest2:=qch (b:=w.heap.size) (cells1.drop (i * 2)) ((i+ys.length) * 2) ((w.drew.alloc (.cells cs0 42)).setCells w.heap.size (i * 2) cells2).drew
    have hsize:(((w.drew.alloc (.cells cs0 42)).setCells w.heap.size (i * 2) cells2).drew.setCells w.heap.size ((i+ys.length) * 2) (cells1.drop (i * 2))).heap.size=w.heap.size+1:=by
     rw[qba]
     show ((w.drew.alloc (.cells cs0 42)).setCells w.heap.size (i * 2) cells2).heap.size=_
     rw[qba];show (w.heap.push _).size=_;simp
    refine (qbwm b1 xs.length cap1 i ys.length ⟨b2,0,none⟩ cap2 w.heap.size cap' w _ _ _ _ _ hlt hm hlc1 hg hge (by omega) hr hB hC).mono ?_
    rintro e w' ⟨rfl,rfl⟩
    obtain ⟨val,Pr',Gs,Os,us,hv,hp⟩:=qxu pre elz hFs hob4 (cap:=cap') (by rw[hw1];omega) (by rw[hlz];exact hge) htake (.inl rfl)
     (fun t hb=>by obtain ⟨k,hk⟩:=hFs t _ hb;exact Nat.lt_irrefl _ (pre.lim k _ hk))
     (fun b' hb1 hb'=>(qbk (cells1.drop (i * 2)) _ _ b' hb').trans ((qbk cells2 _ _ b' hb').trans (hold b' hb1))) (by rw[hsize];omega) (by rw[hsize];omega) (hrest2.1.trans hrest1.1) (hrest2.2.1.trans hrest1.2.1) (hrest2.2.2.trans hrest1.2.2) () (houts _ _ _ _)
    exact ⟨val,Pr',Gs,Os,us,by rw[←hv,hlz],hp⟩
 ·simp at h
end Go.V

namespace Go.V
set_option maxRecDepth 100000
open Go Go.Proofs Go.RowKit
def insA (a:PDen SigI.params):Option (RDen SigI.res×ODen SigI.params):=(insD a.1 a.2.1 a.2.2.1).map fun r=>((r,()),())
def delA (a:PDen SigD.params):Option (RDen SigD.res×ODen SigD.params):=(delD a.1 a.2.1 a.2.2.1).map fun r=>((r,()),())
def qbkz (a:PDen SigW.params):Option (RDen SigW.res×ODen SigW.params):=(insW a.1 a.2.1 a.2.2.1).map fun r=>((r,()),())
def cmpA (a:PDen SigC.params):Option (RDen SigC.res×ODen SigC.params):=some ((scmp a.1 a.2.1,()),())
noncomputable def qye:Den ctx:=fun g a=>
 if h:g=192 then qts (f:=g) (by rw[h];exact sigC) cmpA a else
 if h:g=88 then qts (f:=g) (by rw[h];exact sigI) insA a else
 if h:g=95 then qts (f:=g) (by rw[h];exact sigD) delA a else
 if h:g=93 then qts (f:=g) (by rw[h];exact sigW) qbkz a else
 none
theorem qbqf:qye 192=qts sigC cmpA:=by
 funext a
 simp only[qye,dif_pos]
theorem qbp9:qye 88=qts sigI insA:=by
 funext a
 simp only[qye,dif_pos,dif_neg (show ¬ (88:Nat)=192 by decide)]
theorem qbr0:qye 95=qts sigD delA:=by
 funext a
 simp only[qye,dif_pos,dif_neg (show ¬ (95:Nat)=192 by decide),dif_neg (show ¬ (95:Nat)=88 by decide)]
theorem qbqd:qye 93=qts sigW qbkz:=by
 funext a
 simp only[qye,dif_pos,dif_neg (show ¬ (93:Nat)=192 by decide),dif_neg (show ¬ (93:Nat)=88 by decide),dif_neg (show ¬ (93:Nat)=95 by decide)]
def qbmi (f:FuncId):Bool:=f.beq 192||f.beq 88||f.beq 95||f.beq 93
theorem qbrw {f:FuncId} (h:qbmi f=true):f=192∨f=88∨f=95∨f=93:=by
 simp only[qbmi,Bool.or_eq_true] at h
 rcases h with ((h1 | h2) | h3) | h4
 ·exact .inl (Nat.eq_of_beq_eq_true h1)
 ·exact .inr (.inl (Nat.eq_of_beq_eq_true h2))
 ·exact .inr (.inr (.inl (Nat.eq_of_beq_eq_true h3)))
 ·exact .inr (.inr (.inr (Nat.eq_of_beq_eq_true h4)))
theorem qb0e:qn6 Tryz.prog 88:=⟨Tryz.f88,Tryz.func88,by decide +kernel,rfl⟩
theorem qbz9:qn6 Tryz.prog 95:=⟨Tryz.f95,Tryz.func95,by decide +kernel,rfl⟩
theorem qb0l:qn6 Tryz.prog 93:=⟨Tryz.f93,Tryz.func93,by decide +kernel,rfl⟩
noncomputable def qtq:Ext where
 den:=qye
 is:=qbmi
 ok:=fun f hf=>by
  rcases qbrw hf with rfl | rfl | rfl | rfl
  ·exact qbe4 sigC qbqf qb0m
  ·exact qbe4 sigI qbp9 qbz7
  ·exact qbe4 sigD qbr0 qb0d
  ·exact qbe4 sigW qbqd qbzb
 call:=fun f a r hf _=>by
  rcases qbrw hf with rfl | rfl | rfl | rfl
  ·exact qbrx
  ·exact qb0e
  ·exact qbz9
  ·exact qb0l
theorem qb0r (a b:ByteArray):qts sigC cmpA (a,b,())=cmpA (a,b,()):=by kernel_rfl
theorem qbzt (n:Nat) (a b:ByteArray):DD qtq (n+1) 192 (a,b,())=cmpA (a,b,()):=
 (qble qtq (g:=192) rfl n (a,b,())).trans ((congrFun qbqf (a,b,())).trans (qb0r a b))
theorem qb0w (xs:List TRow.den) (i:Int) (ys:List TRow.den):qts sigI insA (xs,i,ys,())=insA (xs,i,ys,()):=by kernel_rfl
theorem qby5 (n:Nat) (xs:List TRow.den) (i:Int) (ys:List TRow.den):DD qtq (n+1) 88 (xs,i,ys,())=insA (xs,i,ys,()):=
 (qble qtq (g:=88) rfl n (xs,i,ys,())).trans ((congrFun qbp9 (xs,i,ys,())).trans (qb0w xs i ys))
theorem qb0z (xs:List TRow.den) (i j:Int):qts sigD delA (xs,i,j,())=delA (xs,i,j,()):=by kernel_rfl
theorem qby7 (n:Nat) (xs:List TRow.den) (i j:Int):DD qtq (n+1) 95 (xs,i,j,())=delA (xs,i,j,()):=
 (qble qtq (g:=95) rfl n (xs,i,j,())).trans ((congrFun qbr0 (xs,i,j,())).trans (qb0z xs i j))
theorem qb0t (xs:List TWay.den) (i:Int) (ys:List TWay.den):qts sigW qbkz (xs,i,ys,())=qbkz (xs,i,ys,()):=by kernel_rfl
theorem qbtu (n:Nat) (xs:List TWay.den) (i:Int) (ys:List TWay.den):DD qtq (n+1) 93 (xs,i,ys,())=qbkz (xs,i,ys,()):=
 (qble qtq (g:=93) rfl n (xs,i,ys,())).trans ((congrFun qbqd (xs,i,ys,())).trans (qb0t xs i ys))
theorem qbx5 {k:Nat} (h192:Nat.beq k 192=false) (h88:Nat.beq k 88=false) (h95:Nat.beq k 95=false) (h93:Nat.beq k 93=false):qbmi k=false:=by
 simp only[qbmi,Bool.or_eq_false_iff]
 exact ⟨⟨⟨h192,h88⟩,h95⟩,h93⟩
end Go.V

namespace Go.G
set_option maxRecDepth 100000
open Go Go.V Go.Proofs
structure XI (X:Ext):Prop extends XC X where
 ins:∀ n xs i ys,qse (DD X (n+1)) xs i ys=(insD xs i ys).map fun r=>((r,()),())
 del:∀ n xs i j,qsd (DD X (n+1)) xs i j=(delD xs i j).map fun r=>((r,()),())
 way:∀ n xs i ys,qci (DD X (n+1)) xs i ys=(insW xs i ys).map fun r=>((r,()),())
theorem qbwc:XI qtq where
 ok:=fun k h=>by
  simp only[Bool.or_eq_false_iff] at h
  obtain ⟨⟨⟨a,b⟩,c⟩,d⟩:=h
  exact qbx5 (by assumption) (by assumption) (by assumption) (by assumption)
 cmp:=qbzt
 ins:=fun n xs i ys=>qby5 n xs i ys
 del:=fun n xs i j=>qby7 n xs i j
 way:=fun n xs i ys=>qbtu n xs i ys
theorem qbzx (a:Rel):(((a.1.1,a.1.2.1,a.1.2.2.1,()),a.2.1,()):Rel)=a:=rfl
theorem qby9 (a:qcw):((a.1,a.2.1,a.2.2.1,()):qcw)=a:=rfl
end Go.G

namespace Go.G
set_option maxRecDepth 100000
open Go Go.V Go.Proofs
abbrev wd:Way:=(ByteArray.empty,ByteArray.empty,())
def wlt (a b:Way):Bool:=bif Op.bytesLess (ByteArray.toList a.1) (ByteArray.toList b.1) then true else bif List.beq (ByteArray.toList a.1) (ByteArray.toList b.1) then Op.bytesLess (ByteArray.toList a.2.1) (ByteArray.toList b.2.1) else false
theorem qbo4 (a b:Way):qlj (Ty.pair Ty.str (Ty.pair Ty.str Ty.unit)) a b=decide (a=b):=by
 obtain ⟨a1,a2,⟨⟩⟩:=a
 obtain ⟨b1,b2,⟨⟩⟩:=b
 have e:∀ x y:ByteArray,(x.toList == y.toList)=decide (x=y):=fun x y=>qfo
 simp only[qlj,e]
 by_cases h1:a1=b1<;>by_cases h2:a2=b2<;>simp[h1,h2]
theorem qbo8 {X:Ext} (hX:XOk X) {n:Nat} (hn:1≤n) (a b:Way):q14 (DD X n) a b=some ((wlt a b,()),()):=by
 obtain ⟨n,rfl⟩:∃ k,n=k+1:=⟨n - 1,by omega⟩
 rw[qbmu hX];rfl
theorem qbpu {X:Ext} (hX:XOk X) {n:Nat} (hn:1≤n) (a b:Way):q2a (DD X n) a b=some ((wlt a b,()),()):=by
 obtain ⟨n,rfl⟩:∃ k,n=k+1:=⟨n - 1,by omega⟩
 rw[qbnl hX];rfl
def q3k (l:List Way) (w:Way):List Way:=match qbj (fun i=>!wlt (l.getD i wd) w) 0 l.length with
 | some j=>if l.getD j wd=w then l else l.take j++[w]++l.drop j
 | none=>l++[w]
theorem qbu9 (D:Den ctx) (w x:Way):qbr ctx D (Clo.mk 92 [CapV.rptr (Ty.pair Ty.str (Ty.pair Ty.str Ty.unit)) w]) [CapV.val (Ty.pair Ty.str (Ty.pair Ty.str Ty.unit)) x] Ty.bool=(q7l D x w).bind fun q=>some q.1.1:=by kernel_rfl
theorem qbxc {X:Ext} (hX:XOk X) {n:Nat} (hn:W+1≤n) (l:List Way) (hl:l.length≤maxLen) (c:Clo) (P:Nat→Bool)
  (hP:∀ i,i<l.length→qbr ctx (DD X (n - 1)) c [CapV.val (Ty.pair Ty.str (Ty.pair Ty.str Ty.unit)) (l.getD i wd)] Ty.bool=some (P i)) :
  qfh (DD X n) l c=some ((match qbj P 0 l.length with | some j=>(j:Int) | none=>-1,()),()):=by
 obtain ⟨n,rfl⟩:∃ k,n=k+1:=⟨n - 1,by omega⟩
 have hd:=qj
 have hW:=qbn
 rw[qsf hX]
 simp only[qe8,qfg,qem]
 refine Eq.trans (qvr (L:=fun m i=>qb7 (DD X n) n c _ _ m l l.length (i:Int)) (N:=l.length) (P:=P)
  (A:=fun j=>some (((j:Int),()),())) (B:=some ((-1,()),())) (fun m i hi=>?_) (m:=n) (by omega)) ?_
 ·simp only[qb7,qey]
  by_cases h:i<l.length
  ·have hp:qbr ctx (DD X n) c [CapV.val (Ty.pair Ty.str (Ty.pair Ty.str Ty.unit)) (l.getD i wd)] Ty.bool=some (P i):=hP i h
   rw[qm (by exact_mod_cast h),ix h,br_t,Int.toNat_natCast,hp,qf,qp (by omega),if_pos h];rfl
  ·rw[qo (by exact_mod_cast h),if_neg h];rfl
 ·cases qbj P 0 l.length<;>rfl
theorem qbua {X:Ext} (hX:XOk X) {n:Nat} (hn:1≤n) (a:List Way) (ha:a.length≤qbc):qgm (DD X n) a=some ((a,()),()):=by
 obtain ⟨n,rfl⟩:∃ k,n=k+1:=⟨n - 1,by omega⟩
 rw[qww hX]
 simp only[qgg,qlg]
 cases a with
 | nil=>simp[qbv6,both,qdh]
 | cons x a=>simp[qbv6];simpa using ha
theorem qbqg {X:Ext} (hX:XOk X) (hI:∀ n xs i ys,qci (DD X (n+1)) xs i ys=(insW xs i ys).map fun r=>((r,()),())) {n:Nat} (hn:W+3≤n) (l:List Way) (hl:l.length≤M) (w:Way) :
  q4f (DD X n) l w=some ((q3k l w,()),()):=by
 obtain ⟨n,rfl⟩:∃ k,n=k+2:=⟨n - 2,by omega⟩
 have hd:=qj
 have hM:=qcy
 have hb:=qdh
 have hW:=qbn
 rw[qbpd hX]
 simp only[q33,qbbk]
 rw[qbua hX (by omega) l (by omega),qf,qbxc hX (n:=n+1) (by omega) l (by omega) _ (fun i=>!wlt (l.getD i wd) w) (fun i hi=>by
  obtain ⟨n,rfl⟩:∃ k,n=k+1:=⟨n - 1,by omega⟩
  rw[qbu9,show n+1+1 - 1=n+1 from rfl,qbjp hX]
  simp only[qz6,q77]
  rw[qbo8 hX (by omega),qf]
  rfl),qf]
 dsimp only
 unfold q3k
 cases hf:qbj (fun i=>!wlt (l.getD i wd) w) 0 l.length with
 | none=>
  dsimp only
  rw[qm (by decide),hI]
  unfold insW
  rw[if_pos ⟨by omega,by omega,by simp,by simp;omega⟩,Int.toNat_natCast,List.take_length,List.drop_length,List.append_nil]
  rfl
 | some j=>
  have hj:=(qov hf).2.1
  have hj:j<l.length:=by omega
  dsimp only
  rw[qo (show ¬ (j:Int)<0 by omega),ix hj,br_t,Int.toNat_natCast,qbo4,hI]
  by_cases e:l.getD j wd=w
  ·rw[decide_eq_true e,br_t,if_pos e]
  ·rw[decide_eq_false e,br_f,if_neg e]
   unfold insW
   rw[if_pos ⟨by omega,by omega,by simp,by simp;omega⟩,Int.toNat_natCast]
   rfl
theorem qbo1 {X:Ext} (N n:Nat) (l:List Way) (hl:l.length≤M) (w:Way) (p:Nat) (hp:p≤l.length) :
  qim (DD X N) n l (p:Int) w=some ((if p<l.length∧l.getD p wd=w then l else l.take p++[w]++l.drop p,()),()):=by
 have hd:=qj
 have hM:=qcy
 have hb:=qdh
 have c1:(decide ((0:Nat)≤0)&&decide ((0:Int)≤(p:Int))&&decide ((p:Int)≤(l.length:Int)))=true:=by
  rw[decide_eq_true (by omega),decide_eq_true (by omega),decide_eq_true (by omega)];rfl
 have c2:(decide ((0:Int)≤(p:Int))&&decide ((p:Int)≤(l.length:Int))&&decide ((l.length:Int)≤(l.length:Int)))=true:=by
  rw[decide_eq_true (by omega),decide_eq_true (by omega),decide_eq_true (by omega)];rfl
 have t1:List.drop (Int.toNat 0) (List.take p l)=l.take p:=rfl
 simp only[qim]
 have d1:decide (0+(l.take p).length≤qbc)=true:=decide_eq_true (by rw[List.length_take];omega)
 have d2:decide ((l.take p).length+1≤qbc)=true:=decide_eq_true (by rw[List.length_take];omega)
 have d3:decide ((l.take p++[w]).length+(l.drop p).length≤qbc)=true:=decide_eq_true (by simp only[List.length_append,List.length_take,List.length_drop,List.length_cons,List.length_nil];omega)
 have d4:decide (0+l.length≤qbc)=true:=decide_eq_true (by omega)
 simp only[c1,c2,Int.toNat_natCast,t1,List.take_length,List.nil_append,d1,d2,d3,d4,br_t,qbo4]
 by_cases h:p<l.length
 ·rw[qm (by exact_mod_cast h),ix h,br_t]
  by_cases e:l.getD p wd=w
  ·rw[decide_eq_true e,br_t,if_pos ⟨h,e⟩]
  ·rw[decide_eq_false e,br_f,if_neg (fun k=>e k.2)]
 ·rw[qo (by exact_mod_cast h),if_neg (fun k=>h k.1)]
theorem qbqn {X:Ext} (hX:XOk X) {n:Nat} (hn:W+2≤n) (l:List Way) (hl:l.length≤M) (w:Way) :
  q31 (DD X n) l w=some ((q3k l w,()),()):=by
 obtain ⟨n,rfl⟩:∃ k,n=k+1:=⟨n - 1,by omega⟩
 have hd:=qj
 have hM:=qcy
 have hb:=qdh
 have hW:=qbn
 rw[qbpn hX]
 simp only[q35,q36,qzh]
 refine Eq.trans (qvr (L:=fun m i=>qk0 (DD X n) n _ m l (i:Int) w) (N:=l.length) (P:=fun i=>!wlt (l.getD i wd) w)
  (A:=fun j=>qim (DD X n) n l (j:Int) w) (B:=qim (DD X n) n l (l.length:Int) w) (fun m i hi=>?_) (m:=n) (by omega)) ?_
 ·simp only[qk0,q06]
  by_cases h:i<l.length
  ·rw[qm (by exact_mod_cast h),ix h,br_t,Int.toNat_natCast,qbpu hX (by omega),qf,qp (by omega),if_pos h]
   dsimp only
   cases wlt (l.getD i wd) w<;>rfl
  ·have hin:i=l.length:=by omega
   rw[qo (by exact_mod_cast h),if_neg h,hin]
 ·unfold q3k
  cases hf:qbj (fun i=>!wlt (l.getD i wd) w) 0 l.length with
  | none=>
   refine (qbo1 n n l hl w _ (Nat.le_refl _)).trans ?_
   rw[if_neg (fun k=>Nat.lt_irrefl _ k.1),List.take_length,List.drop_length,List.append_nil]
  | some j=>
   have hj:=(qov hf).2.1
   have hj:j<l.length:=by omega
   refine (qbo1 n n l hl w j (by omega)).trans ?_
   by_cases e:l.getD j wd=w
   ·rw[if_pos ⟨hj,e⟩]
    dsimp only
    rw[if_pos e]
   ·rw[if_neg (fun k=>e k.2)]
    dsimp only
    rw[if_neg e]
theorem qbai (l:List Way) (w:Way):(q3k l w).length≤l.length+1:=by
 unfold q3k
 split
 ·split
  ·omega
  ·simp only[List.length_append,List.length_take,List.length_drop,List.length_cons,List.length_nil];omega
 ·simp
end Go.G

namespace Go.G
set_option maxRecDepth 100000
open Go Go.V Go.Proofs
def qbaq (s:qcw) (i:Nat) (row:Row):Way:=(qbe8 (qns (qbb row (s.2.2.1.getD i xd).2.1)),qbe8 (qns (qbb row s.2.1)),())
def q1n (s:qcw) (i:Nat):List Row→List Way→List Way
 | [],l=>l
 | row::rows,l=>q1n s i rows (q3k l (qbaq s i row))
def qqg (r:Rel) (i:Int):List Way:=if (qzq r&&inR i 0 ((r.1.2.2.1.length:Int) - 1))=true then q1n r.1 i.toNat r.2.1 [] else []
theorem qbx7 {r:Rel} {i:Int} {row:Row} (h1:qtu r.1 row=true) (h2:inR i 0 ((r.1.2.2.1.length:Int) - 1)=true):qba8 r i row=(qbaq r.1 i.toNat row,true):=by
 unfold qba8
 rw[h1,h2];rfl
theorem qbwo {X:Ext} (hX:XOk X) {n:Nat} (hn:W+7≤n) (s:qcw) (hs:SchSm s) (i:Nat) (hi:i<s.2.2.1.length) (row:Row) (hw:row.length≤M):qbad (DD X n) s (i:Int) row=some ((qbaq s i row,()),()):=by
 obtain ⟨n,rfl⟩:∃ k,n=k+1:=⟨n - 1,by omega⟩
 have hM:=qcy
 have l1:=qkp row (s.2.2.1.getD i xd).2.1
 have l2:=qkp row s.2.1
 have l3:=hs.ixc _ (qdl (d:=xd) hi)
 have l4:=hs.key
 rw[qbuu hX]
 simp only[qba9,qbk5]
 rw[ix hi,br_t,Int.toNat_natCast,qvx hX (by omega) row hw _ l3,qf]
 dsimp only
 rw[q63 hX (by omega) _ (by omega),qf,q2j hX (by omega) s row hw l4,qf]
 dsimp only
 rw[q63 hX (by omega) _ (by omega),qf]
 rfl
section
variable {X:Ext} (hX:XOk X) (hI:∀ n xs i ys,qci (DD X (n+1)) xs i ys=(insW xs i ys).map fun r=>((r,()),()))
include hX hI
theorem qbc1 (N n:Nat) (hN:W+7≤N) (K:List Way→Option ((List Way×Unit)×Unit)) (r:Rel) (hr:RelSm r) (i:Nat) (hi:i<r.1.2.2.1.length):∀ (m k:Nat) (l:List Way),k≤r.2.1.length→r.2.1.length - k<m→l.length≤k→
  qk1 (DD X N) n K m (i:Int) r.2.1 (r.2.1.length:Int) (k:Int) r l=K (q1n r.1 i (r.2.1.drop k) l)
 | 0,_,_,_,h,_=>by omega
 | m+1,k,l,hk,hf,hl=>by
  have hM:=qcy
  have h2:=hr.rows
  simp only[qk1,q2r]
  by_cases h:k<r.2.1.length
  ·rw[qm (by exact_mod_cast h),ix h,br_t,Int.toNat_natCast,qbwo hX (by omega) r.1 hr.sch i hi _ (hr.row _ (qdl h)),qf]
   dsimp only
   have hp:=qbai l (qbaq r.1 i (r.2.1.getD k []))
   rw[qbqg hX hI (by omega) l (by omega),qf,qp (by omega),q7 h,qy h]
   rw[qy h] at hp
   dsimp only
   exact qbc1 N n hN K r hr i hi m (k+1) _ (by omega) (by omega) (by omega)
  ·rw[qo (by exact_mod_cast h),q9 h];rfl
end
section
variable {X:Ext} (hX:XC X) (hI:∀ n xs i ys,qci (DD X (n+1)) xs i ys=(insW xs i ys).map fun r=>((r,()),()))
include hX hI
theorem qbru {n:Nat} (hn:W+11≤n) (r:Rel) (hr:RelSm r) (i:Int):qv3 (DD X n) r i=some ((qqg r i,()),()):=by
 obtain ⟨n,rfl⟩:∃ k,n=k+1:=⟨n - 1,by omega⟩
 have hM:=qcy
 have hW:=qbn
 have h2:=hr.rows
 have h3:=hr.sch.ixs
 rw[qbpl hX.ok]
 simp only[q38,q32,qzn]
 rw[qbsh hX (by omega) r hr,qf,qzf hX.ok (by omega),qf,qce (by omega) (by omega)]
 unfold qqg
 dsimp only
 cases qzq r
 ·rfl
 ·cases hin:inR i 0 ((r.1.2.2.1.length:Int) - 1)
  ·rfl
  ·obtain ⟨p1,p2⟩:=qbdz hin
   obtain ⟨i,rfl⟩:=Int.eq_ofNat_of_zero_le p1
   rw[Bool.not_true,br_f,br_f]
   have e:=qbc1 hX.ok hI n n (by omega) (fun v0_0=>qxn (DD X n) n v0_0) r hr i (by omega) n 0 [] (Nat.zero_le _) (by omega) (Nat.le_refl _)
   rw[show ((0:Nat):Int)=0 from rfl] at e
   rw[e];rfl
end
theorem qbcx {X:Ext} (hX:XOk X) (N n:Nat) (hN:W+8≤N) (K:List Way→Option ((List Way×Unit)×Unit)) (r:Rel) (hr:RelSm r) (i:Int):∀ (m k:Nat) (l:List Way),k≤r.2.1.length→r.2.1.length - k<m→l.length≤k→
  qlb (DD X N) n K m i (k:Int) r l=K (if (qzq r&&inR i 0 ((r.1.2.2.1.length:Int) - 1))=true then q1n r.1 i.toNat (r.2.1.drop k) l else l)
 | 0,_,_,_,h,_=>by omega
 | m+1,k,l,hk,hf,hl=>by
  have hM:=qcy
  have h2:=hr.rows
  simp only[qlb,q19]
  by_cases h:k<r.2.1.length
  ·rw[qm (by exact_mod_cast h),qbs6 hX (by omega) r hr,qf]
   dsimp only
   cases hok:qzq r
   ·rfl
   ·have hrow:=((qbwu r).1 hok).2.2.1 _ (qdl (d:=[]) h)
    rw[br_t,ix h,br_t,Int.toNat_natCast,qbso hX (by omega) r hr i _ (hr.row _ (qdl h)),qf,qp (by omega),q7 h]
    dsimp only
    have ih:=fun l' hl'=>qbcx hX N n hN K r hr i m (k+1) l' (by omega) (by omega) hl'
    rw[hok] at ih
    cases hin:inR i 0 ((r.1.2.2.1.length:Int) - 1)
    ·have e:qba8 r i (r.2.1.getD k [])=((ByteArray.empty,ByteArray.empty,()),false):=by
      unfold qba8
      rw[hin,Bool.and_false,if_neg Bool.noConfusion]
     rw[e,br_f,ih l (by omega),hin,Bool.and_false,if_neg Bool.noConfusion,if_neg Bool.noConfusion]
    ·rw[qbx7 hrow hin,br_t]
     have hp:=qbai l (qbaq r.1 i.toNat (r.2.1.getD k []))
     dsimp only
     rw[qbqn hX (by omega) l (by omega),qf]
     dsimp only
     rw[ih _ (by omega),hin,Bool.and_true,if_pos rfl,if_pos rfl,qy h];rfl
  ·rw[qo (by exact_mod_cast h),q9 h]
   split<;>rfl
theorem qbp5 {X:Ext} (hX:XOk X) {n:Nat} (hn:W+9≤n) (r:Rel) (hr:RelSm r) (i:Int):q3v (DD X n) r i=some ((qqg r i,()),()):=by
 obtain ⟨n,rfl⟩:∃ k,n=k+1:=⟨n - 1,by omega⟩
 have hM:=qcy
 have hW:=qbn
 have h2:=hr.rows
 rw[qbpt hX]
 simp only[q4o,q37,qym]
 have e:=qbcx hX n n (by omega) (fun v0_0=>qxa (DD X n) n v0_0) r hr i n 0 [] (Nat.zero_le _) (by omega) (Nat.le_refl _)
 rw[show ((0:Nat):Int)=0 from rfl] at e
 rw[e];rfl
theorem qbcw (s:qcw) (i:Nat):∀ (rows:List Row) (l:List Way),(q1n s i rows l).length≤l.length+rows.length
 | [],l=>Nat.le_refl _
 | row::rows,l=>by
  have h1:=qbcw s i rows (q3k l (qbaq s i row))
  have h2:=qbai l (qbaq s i row)
  simp only[q1n,List.length_cons];omega
theorem qbuf (r:Rel) (i:Int):(qqg r i).length≤r.2.1.length:=by
 unfold qqg
 split
 ·have:=qbcw r.1 i.toNat r.2.1 []
  simpa using this
 ·exact Nat.zero_le _
end Go.G

namespace Go.G
set_option maxRecDepth 100000
open Go Go.V
abbrev WayT:Ty:=.pair .str (.pair .str .unit)
theorem qbqa (D:Den ctx) (n:Nat) (K0:Bool→Option ((Bool×Unit)×Unit)) (K1:Option ((Bool×Unit)×Unit)):∀ (m i:Nat) (a b:List Way),(∀ x y,y∈b→qz2 D x y=some ((decide (x=y),()),()))→
  a.length=b.length→a.length≤maxLen→i≤a.length→a.length - i<m→qk4 D n K0 K1 m a b i=if a.drop i=b.drop i then K1 else K0 false
 | 0,_,_,_,_,_,_,_,h=>by omega
 | m+1,i,a,b,he,hl,hm,hi,hk=>by
  simp only[qk4,q2i]
  have hd:=qj
  by_cases h:i<a.length
  ·rw[qm (by exact_mod_cast h),ix h,br_t,ix (hl ▸ h),br_t,qp (by omega),Int.toNat_natCast,qy h,qy (hl ▸ h),he _ _ (List.getElem_mem _),qf,q7 h,q7 (hl ▸ h:i<b.length)]
   by_cases e:a[i]=b[i]'(hl ▸ h)
   ·simp only[e,decide_true,Bool.not_true,br_f,List.cons.injEq,true_and]
    exact qbqa D n K0 K1 m (i+1) a b he hl hm (by omega) (by omega)
   ·simp only[e,decide_false,Bool.not_false,br_t,List.cons.injEq,false_and,if_false]
  ·rw[qo (by exact_mod_cast h),q9 h,q9 (hl ▸ h)];rfl
theorem qbyc {X:Ext} (hX:XOk X) {n:Nat} (hn:W+3≤n) (a b:List Way) (hb:b.length≤maxLen):qqi (DD X n) a b=some ((decide (a=b),()),()):=by
 obtain ⟨n,rfl⟩:∃ k,n=k+1:=⟨n - 1,by omega⟩
 rw[qbpc hX]
 simp only[q34,q3z,qz7]
 by_cases h:a.length=b.length
 ·have e:((a.length:Int) != (b.length:Int))=false:=by simp[h]
  rw[e,br_f]
  have:=qbqa (DD X n) n (fun v=>qpa (DD X n) n v) (qpo (DD X n) n) n 0 a b (fun x y hy=>qby8 hX (by omega) x y) h (by omega) (by omega) (by have:=qbn;have:=qj;omega)
  rw[show ((0:Nat):Int)=0 from rfl] at this
  rw[this]
  simp only[List.drop_zero,qpa,qpo]
  by_cases h:a=b<;>simp[h]
 ·have e:((a.length:Int) != (b.length:Int))=true:=by simp;omega
  have:a≠b:=fun h2=>h (by rw[h2])
  rw[e,br_t];simp[this]
theorem qbky {X:Ext} (hX:XOk X) (N n:Nat) (hN:W+1≤N) (K:Int→List Way→Option ((Int×Unit)×List Way×Unit)):∀ (m i:Nat) (k:Int) (a:List Way),a.length≤maxLen→i≤a.length→a.length - i<m→0≤k→k+((a.drop i).map (cnt WayT)).sum≤maxLen→
  qi9 (DD X N) n K m k i a=K (mkL (mkT WayT) k (a.drop i)).1 (a.take i++(mkL (mkT WayT) k (a.drop i)).2)
 | 0,_,_,_,_,_,h,_,_=>by omega
 | m+1,i,k,a,hm,hi,hf,hk,hkl=>by
  simp only[qi9,qw5]
  have hd:=qj
  by_cases h:i<a.length
  ·rw[qhc h] at hkl
   have hc:cnt WayT a[i]=2:=rfl
   rw[qm (by exact_mod_cast h),qph hX hN k (by omega),qf,ix h,br_t]
   simp only[List.length_set,Int.toNat_natCast,qvz h,qy h,List.set_set]
   rw[qce (by omega) (by omega),qph hX hN (k+1) (by omega),qf,ix h,br_t,qce (by omega) (by omega),qp (by omega)]
   have e:=qbky hX N n hN K m (i+1) (k+1+1) (a.set i (q2y k,q2y (k+1),a[i].2.2)) (by simpa using hm) (by simp;omega) (by simp;omega) (by omega) (by rw[List.drop_set_of_lt (by omega)];omega)
   refine Eq.trans e ?_
   rw[qle h,q7 h,List.drop_set_of_lt (by omega),List.append_assoc]
   rfl
  ·rw[qo (by exact_mod_cast h),q9 h,List.take_of_length_le (by omega)]
   simp only[mkL,List.append_nil]
theorem qbt5 {X:Ext} (hX:XOk X) {n:Nat} (hn:W+2≤n) (a:List Way) (k:Int) (ha:a.length≤maxLen) (hk:0≤k) (h:k+cnt (.sl WayT) a≤maxLen) :
  qy5 (DD X n) a k=some (((mkT (.sl WayT) k a).1,()),((mkT (.sl WayT) k a).2,())):=by
 obtain ⟨n,rfl⟩:∃ k,n=k+1:=⟨n - 1,by omega⟩
 have hd:=qj
 rw[qbkq hX]
 simp only[qy9,qy1,qur]
 have:=qbky hX n n (by omega) (fun v w=>qmu (DD X n) n v w) n 0 k a ha (by omega) (by have:=qbn;omega) hk (by rw[List.drop_zero];exact h)
 rw[show ((0:Nat):Int)=0 from rfl] at this
 rw[this]
 simp only[List.take_zero,List.drop_zero,List.nil_append,qmu,mkT]
theorem qbjw {X:Ext} (hX:XOk X) (N n:Nat) (hN:W+1≤N) (K0:Int→Int→Option ((Int×Unit)×Unit)) (K1:Int→Option ((Int×Unit)×Unit)):∀ (m i:Nat) (k:Int) (a l:List Way),a.length≤maxLen→i≤a.length→a.length - i<m→0≤k→k+(l.map (cnt WayT)).sum≤maxLen→
  a.drop i=(mkL (mkT WayT) k l).2→qii (DD X N) n K0 K1 m a k i=K1 (mkL (mkT WayT) k l).1
 | 0,_,_,_,_,_,_,h,_,_,_=>by omega
 | m+1,i,k,a,l,hm,hi,hf,hk,hkl,hl=>by
  simp only[qii,qw4]
  have hd:=qj
  by_cases h:i<a.length
  ·rw[q7 h] at hl
   cases l with
   | nil=>simp[mkL] at hl;omega
   | cons x l=>
    simp only[mkL,List.cons.injEq] at hl
    obtain ⟨hx,hl⟩:=hl
    simp only[List.map_cons,List.sum_cons] at hkl
    have hc:cnt WayT x=2:=rfl
    have hx1:a[i].1=q2y k:=by rw[hx];rfl
    have hx2:a[i].2.1=q2y (k+1):=by rw[hx];rfl
    rw[qm (by exact_mod_cast h),ix h,br_t,qph hX hN k (by omega),qf,Int.toNat_natCast,qy h,hx1,hx2,qfo]
    simp only[decide_true,Bool.not_true,br_f,br_t]
    rw[qce (by omega) (by omega),qph hX hN (k+1) (by omega),qf,qfo]
    simp only[decide_true,Bool.not_true,br_f]
    rw[qce (by omega) (by omega),qp (by omega)]
    have e:=qbjw hX N n hN K0 K1 m (i+1) (mkT WayT k x).1 a l hm (by omega) (by omega) (by rw[ql5];omega) (by rw[ql5];omega) hl
    exact e
  ·rw[qo (by exact_mod_cast h)]
   rw[q9 h] at hl
   cases l with
   | nil=>rfl
   | cons x l=>simp[mkL] at hl
theorem qbuh {X:Ext} (hX:XOk X) {n:Nat} (hn:W+2≤n) (a:List Way) (k:Int) (ha:a.length≤maxLen) (hk:0≤k) (h:k+cnt (.sl WayT) a≤maxLen) :
  qrq (DD X n) (mkT (.sl WayT) k a).2 k=some (((mkT (.sl WayT) k a).1,()),()):=by
 obtain ⟨n,rfl⟩:∃ k,n=k+1:=⟨n - 1,by omega⟩
 have hd:=qj
 rw[qbjt hX]
 simp only[qzl,qyw,qve]
 have hml:(mkT (.sl WayT) k a).2.length=a.length:=qbm4 k a
 have:=qbjw hX n n (by omega) (fun v w=>qtf (DD X n) n v w) (fun v=>qmg (DD X n) n v) n 0 k (mkT (.sl WayT) k a).2 a (by omega) (by omega) (by have:=qbn;omega) hk h (by simp[mkT])
 rw[show ((0:Nat):Int)=0 from rfl] at this
 rw[this]
 simp only[qmg,mkT]
end Go.G

/- The row FnExactWaysOf holds: for all arguments the law returns true and the arguments read as before. No condition. -/
namespace Go.G
set_option linter.unusedVariables false
set_option maxRecDepth 100000
open Go Go.V Go.Proofs

theorem qbq9:∀ (a:List Way),cnt (.sl WayT) a=2 * a.length
 | []=>rfl
 | x::a=>by
  have h:=qbq9 a
  have e:cnt (.sl WayT) (x::a)=2+cnt (.sl WayT) a:=rfl
  rw[e,h,List.length_cons];omega
theorem qbgo (a:Rel) (i:Int) (wa:Wf RelT a):qy2 (DD qtq (W+14)) a i=some ((true,()),()):=by
 have hI:=qbwc
 have hC:=hI.toXC
 have hX:=hC.ok
 have hd:=qj
 have hM:=qcy
 rw[qbaf hX]
 simp only[qp9,qyj]
 rw[qbz0 hX (by omega) a 1048576 wa (by omega),qf];dsimp only
 by_cases h:left RelT a 1048576<0
 ·rw[qm h]
 ·rw[qo h]
  obtain ⟨h1,h2⟩:=qg7 h (by omega)
  have hs:=qbxs (r:=a) (by omega)
  have h4:=hs.rows
  have hl:=qbuf a i
  have hc:=qbjj RelT a
  have hlf:qji RelT=10:=rfl
  rw[hlf] at hc
  have cw:=qbq9 (qqg a i)
  have hlW:(qqg a i).length≤maxLen:=by omega
  have e1:=qbzc hX (n:=W+13) (by omega) a (fitB h2)
  have e3:=qbp5 hX (n:=W+13) (by omega) a hs i
  have e4:=qbru hC qbtu (n:=W+13) (by omega) a hs i
  have e5:=qby3 hX (n:=W+13) (by omega) a a (fitM h2)
  have e7:=qbyc hX (n:=W+13) (by omega) (qqg a i) (qqg a i) hlW
  have e8:=qbv9 hX (n:=W+13) (by omega) a 1 (fitM h2) (by omega) (by omega)
  have e10:=qbt5 hX (n:=W+13) (by omega) (qqg a i) 1 hlW (by omega) (by omega)
  have e11:=qbuh hX (n:=W+13) (by omega) (qqg a i) 1 hlW (by omega) (by omega)
  have p1:=decide_eq_false (qbta (t:=RelT) (k:=1) (by omega) a)
  have p2:=decide_eq_false (qbta (t:=.sl WayT) (k:=1) (by omega) (qqg a i))
  simp only[qbzx,qby9,e1,e3,e4,e5,e7,e8,e10,e11,p1,p2,qf,decide_true,Bool.not_true,cond_false,br_f,bne_self_eq_false]
end Go.G
namespace Go.Proofs.YtfafjngknkbngaaGreat
open Go.ChangeShapes Go.WideShapes Go.ChangeAt Go.RowKit Go.V Go.G
set_option maxRecDepth 100000
theorem fnExactWaysOf_lifted (os:Os) (started:os.Started) (H:Type) (enc:TypeId×Value→H) :
  ReturnsInHanded {} Tryz.checked os 9 .any (Rows.fnExactWaysOfSpec.pre6 enc Tryz.prog Tryz.f9 Rows.fnExactWaysOfRow.domain false) (Rows.fnExactWaysOfSpec.post enc Tryz.prog Tryz.f9 false true false false):=
 qbvy (X:=qtq) (tb:=4) started Tryz.func9 (by kernel_rfl)
  (ChangeSpec.witness6 (enc:=enc) (C:=Tryz.checked) false ⟨#[],Tryz.f9.params.map fun t=>((Tryz.prog.info? t).bind (·.zero)).getD .nilIface,[]⟩ 8 (by kernel_rfl) (by kernel_rfl) (by kernel_rfl) (by kernel_rfl))
  ⟨rfl,rfl,rfl,rfl,trivial⟩ (by kernel_rfl) (by kernel_rfl) (by kernel_rfl) rfl
  (fun ds h=>by
   match ds,h with
   | [d0,d1],_=>exact ⟨rfl,rfl,rfl⟩)
  (fun a wa=>⟨W+14,((true,()),()),qbgo a.1 a.2.1 wa.1,fun h Pr Gs us k=>by
   obtain ⟨v,vs,rfl,⟨c,r,rfl⟩,e⟩:=k
   obtain rfl:vs=[]:=e
   simp only[Rep] at r
   subst r
   rfl⟩)
theorem fnExactWaysOf_holds:Rows.FnExactWaysOfSaid:=
 OpenClaim.holds_of_wide 9 Tryz.f9 rfl rfl rfl rfl rfl rfl rfl ⟨rfl,rfl,rfl,rfl,rfl⟩ rfl rfl rfl rfl rfl (by kernel_rfl) Tryz.func9 (by kernel_rfl)
  (of_decide_eq_true (by kernel_rfl)) (by unfold Func.isWrapper;first | (rw[if_pos (by decide +kernel)];kernel_rfl) | (rw[if_neg (by decide +kernel)];exact ⟨rfl,rfl⟩))
  (fun os started H enc _=>fnExactWaysOf_lifted os started H enc)
#print axioms fnExactWaysOf_holds
end Go.Proofs.YtfafjngknkbngaaGreat


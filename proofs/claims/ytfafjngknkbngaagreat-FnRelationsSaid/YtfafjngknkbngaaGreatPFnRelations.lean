/- The row FnRelations holds: for all bytes the law returns true and the argument reads as before. No condition. -/
import Derived.Lib.AppendZerosOnto
import Derived.Laws.Externs
import Derived.Lib.Overlaps
import Derived.Test.YtfafjngknkbngaaGreatAPFnRelations2
set_option linter.unusedVariables false
set_option linter.unusedSimpArgs false
set_option linter.unusedSectionVars false
namespace Go.V
set_option maxRecDepth 100000
open Go Go.Proofs Go.RowKit
abbrev TWay:Ty:=.pair .str (.pair .str .unit)
abbrev SigW:Sig:=⟨[.own (.sl TWay) (Mk.top (.sl TWay)),.val (.int .i64),.own (.sl TWay) (Mk.top (.sl TWay))],[.val (.sl TWay) (Mk.top (.sl TWay))]⟩
theorem sigW:ctx.sig 93=SigW:=by kernel_rfl
def insW (xs:List TWay.den) (i:Int) (ys:List TWay.den):Option (List TWay.den):=if 0≤i∧i≤xs.length∧0<ys.length∧xs.length+ys.length≤qbj then some (xs.take i.toNat++ys++xs.drop i.toNat) else none
theorem qs8 {P:Program} (w:World) (dT sT ty elem:TypeId) {i:TypeInfo} (b o dLen dCap:Nat) (a:Addr) (sLen sCap:Nat) (cs:List Value)
  (hu:P.underlying dT=some (.slice elem)) (hi:P.info? elem=some i) (hn:Nat.min sLen dLen * i.size=cs.length)
  (hsrc:∀ j v,cs[j]? = some v→w.cell? (a.add j)=some v) (hc:∀ j,j<cs.length→(w.cell? ⟨b,o+j,none⟩).isSome=true) (hf:∀ j,j<cs.length→w.frozen? ⟨b,o+j,none⟩=false) (h1:∀ v∈cs,v.oneCell'=true) :
  (Builtin.copy_ #[dT,sT] ty #[.slice (some ⟨b,o,none⟩) dLen dCap,.slice (some a) sLen sCap]).run P w=.ok (goInt (Nat.min sLen dLen)) (w.setCells b o cs):=by
 have hl:=run_loadCells_list (P:=P) w a cs hsrc
 have hst:=run_storeCells_cells (P:=P) b o cs 0 w (by simpa using hc) (by simpa using hf) h1
 simp[Builtin.copy_,run_underlying hu,Builtin.lenOf,Builtin.firstCells,sizeOf,typeInfo,hi,hn,hl,hst]
theorem El.all {h:Array Obj} {Pr:BS} {e:Ty} {mi:Mk} {xs:List e.den} {cells:List Value} {F:Nat→BS} (el:El h Pr e mi xs cells F) (hw:0<e.width) (hl:cells.length=xs.length * e.width):∀ u∈cells,u.oneCell'=true:=by
 intro u hu
 obtain ⟨k,hk,rfl⟩:=List.getElem_of_mem hu
 have hk2:k / e.width<xs.length:=by rw[Nat.div_lt_iff_lt_mul hw];omega
 have r:=el.rep (k / e.width) hk2
 refine Rep.one _ r _ ?_
 rw[List.mem_iff_getElem?]
 refine ⟨k % e.width,?_⟩
 have e1:k / e.width * e.width+k % e.width=k:=by rw[Nat.mul_comm];exact Nat.div_add_mod k e.width
 rw[List.getElem?_take,if_pos (Nat.mod_lt _ hw),List.getElem?_drop,e1,List.getElem?_eq_getElem]
theorem qbsd:qbfx Tryz.prog SigW 93 fun a=>(insW a.1 a.2.1 a.2.2.1).map fun r=>((r,()),()):=by
 intro a r h w Pr Fs vs pre
 obtain ⟨xs,i,ys,⟨⟩⟩:=a
 change List TWay.den at xs
 change Int at i
 change List TWay.den at ys
 obtain ⟨v1,vs1,rfl,⟨c1,rep1,rfl⟩,v2,vs2,rfl,⟨c2,r2,rfl⟩,v3,vs3,rfl,⟨c3,rep3,rfl⟩,k3⟩:=pre.rel
 obtain rfl:vs3=[]:=k3
 simp only[Rep] at r2
 subst r2
 dsimp only at h
 unfold insW at h
 split at h
 ·rename_i hc
  obtain ⟨h0,hi,hm,hbd⟩:=hc
  replace h0:0≤i:=h0
  replace hi:i≤xs.length:=hi
  replace hm:0<ys.length:=hm
  replace hbd:xs.length+ys.length≤274877906944:=hbd
  simp only[Option.map_some,Option.some.injEq] at h
  subst h
  obtain ⟨i,rfl⟩:=Int.eq_ofNat_of_zero_le h0
  have hi2:i≤xs.length:=by omega
  obtain ⟨ad1,cap1,cells1,F1,rfl,hl1,hlc1,hsrc1,el1,hF1,hown1⟩:=qlq (by simp[Mk.top]) (by simp[Mk.top]) rep1
  obtain ⟨ad2,cap2,cells2,F2,rfl,hl2,hlc2,hsrc2,el2,hF2,hown2⟩:=qlq (by simp[Mk.top]) (by simp[Mk.top]) rep3
  have hw1:TWay.width=2:=rfl
  replace hlc1:xs.length≤cap1:=hlc1
  replace hlc2:ys.length≤cap2:=hlc2
  have hl1':cells1.length=xs.length * 2:=by rw[hl1,hw1]
  have hl2':cells2.length=ys.length * 2:=by rw[hl2,hw1]
  rcases hown2 0 _ rfl with hc0 | ⟨b2,cs2,rfl,hbF2,hbo2,hcapb2,hFb2,hcells2⟩
  ·exact absurd hc0 (by omega)
  replace hcapb2:cap2 * 2≤cs2.size:=by rw[hw1] at hcapb2;exact hcapb2
  replace hcells2:cells2=sub cs2 0 (ys.length * 2):=by rw[hcells2,hw1]
  have hd12:∀ p q,Dis (F1 p) (F2 q):=fun p q=>(pre.dis 0 2 (by decide)).mono (hF1 p) (hF2 q)
  obtain ⟨FF,elz,hFF⟩:=El.insert el1 el2 i hi2 (by rw[hl1]) (by rw[hl2]) hd12
  rw[hw1] at elz
  have hFs:∀ t b,FF t b→∃ k,Fs k b:=fun t b hb=>by
   rcases hFF t b hb with ⟨c,hc⟩ | ⟨c,hc⟩
   ·exact ⟨0,hF1 c b hc⟩
   ·exact ⟨2,hF2 c b hc⟩
  have hlz:(xs.take i++ys++xs.drop i).length=xs.length+ys.length:=by simp only[List.length_append,List.length_take,List.length_drop];omega
  have hone1:=el1.all (by decide) hl1
  have hone2:=el2.all (by decide) hl2
  have uT:Tryz.prog.underlying 35=some (.slice 42):=by kernel_rfl
  have u3:Tryz.prog.underlying 3=some (.int .i64):=by kernel_rfl
  obtain ⟨i0,z0,hi0,hs0,hz0,hzs,hb0⟩:∃ i0 z0,Tryz.prog.info? 42=some i0∧i0.size=2∧i0.zero=some z0∧z0.cells.size=2∧i0.bytes=32:=by
   have k:((Tryz.prog.info? 42).map fun x=>(x.size,x.zero.map (·.cells.size),x.bytes))=some (2,some 2,32):=by kernel_rfl
   cases h:Tryz.prog.info? 42 with
   | none=>rw[h] at k;cases k
   | some x=>
    rw[h] at k
    simp only[Option.map_some,Option.some.injEq,Prod.mk.injEq] at k
    cases hz:x.zero with
    | none=>rw[hz] at k;cases k.2.1
    | some z=>
     rw[hz] at k
     simp only[Option.map_some,Option.some.injEq] at k
     exact ⟨x,z,rfl,k.1,hz,k.2.1,k.2.2⟩
  have hn2:(Builtin.firstCells i0.size ys.length (.slice (some ⟨b2,0,none⟩) ys.length cap2)).run Tryz.prog w=.ok cells2.toArray w:=by
   rw[hs0]
   exact qf5 hl2' (.inr ⟨b2,0,rfl,by rw[hcells2];exact qbt hbo2.blk (by omega)⟩)
  have ht0:cells1.take (xs.length * 2)=cells1:=List.take_of_length_le (by omega)
  have hd0:cells1.drop (xs.length * 2)=[]:=List.drop_eq_nil_of_le (by omega)
  have houts:∀ (h:Array Obj) (v1 v2 v3:Value),qff h Pr (fun _=>Nil) 0 SigW.params () [v1,v2,v3]:=fun h v1 v2 v3=>⟨_,_,rfl,_,_,rfl,_,_,rfl,rfl⟩
  by_cases hend:i=xs.length
  ·subst hend
   rw[ht0,hd0,List.append_nil] at elz
   by_cases hroom:xs.length+ys.length≤cap1
   ·rcases hown1 0 _ rfl with hc0 | ⟨b1,cs1,rfl,hbF1,hbo1,hcapb1,hFb1,hcells1⟩
    ·exact absurd hc0 (by omega)
    replace hcapb1:cap1 * 2≤cs1.size:=by rw[hw1] at hcapb1;exact hcapb1
    replace hcells1:cells1=sub cs1 0 (xs.length * 2):=by rw[hcells1,hw1]
    have hfit:xs.length * 2+cells2.length≤cs1.size:=by omega
    have hr:∀ ty,(Builtin.append_ #[35,35] ty #[.slice (some ⟨b1,0,none⟩) xs.length cap1,.slice (some ⟨b2,0,none⟩) ys.length cap2]).run Tryz.prog w=.ok (.slice (some ⟨b1,0,none⟩) (xs.length+ys.length) cap1) (w.setCells b1 (xs.length * 2) cells2):=fun ty=>
     qkf (P:=Tryz.prog) w (ty:=ty) rfl rfl uT uT hi0 hn2 hroom (fun ad e=>by
      simp only[Option.some.injEq] at e
      subst e
      rw[Addr.add_mid,Nat.zero_add,hs0]
      have th:=qec (w:=w) (o:=xs.length * 2) (n:=cells2.length) hbo1 hfit
      have:=run_storeCells_cells (P:=Tryz.prog) b1 (xs.length * 2) cells2 0 w (fun t ht=>by simpa using (th t ht).1) (fun t ht=>by simpa using (th t ht).2) hone2
      simpa using this) (fun e=>by simp at e)
    obtain ⟨ty,lo,hi',he,hfz⟩:=hbo1
    obtain ⟨cs3,hcs3,hcs3l⟩:=qda cells2 (xs.length * 2) w cs1 he hfit
    have hsz3:cs3.size=cs1.size:=by rw[←Array.length_toList,hcs3l,qcf (by simpa using hfit),Array.length_toList]
    have hob3:qbf (w.setCells b1 (xs.length * 2) cells2).heap b1 cs3:=⟨ty,lo,hi',hcs3,fun t ht=>hfz t (by omega)⟩
    have h7:cs1.toList.length=cs1.size:=Array.length_toList
    have htake:cs3.toList.take ((xs.take xs.length++ys++xs.drop xs.length).length * TWay.width)=cells1++cells2:=by
     rw[hw1,hlz,hcs3l,hcells1]
     simp only[repl,sub,List.drop_zero]
     rw[List.take_append_of_le_length (by rw[List.length_append,List.length_take,hl2'];omega),List.take_of_length_le (by rw[List.length_append,List.length_take,hl2'];omega)]
    have hrest:=qce (b:=b1) cells2 (xs.length * 2) w
    have hFBb:∀ t,¬ FF t b1:=fun t hb=>by
     rcases hFF t b1 hb with ⟨c,hc⟩ | ⟨c,hc⟩
     ·exact hFb1 c hc
     ·exact pre.dis 0 2 (by decide) b1 hbF1 (hF2 c b1 hc)
    refine (qbkt (some ⟨b1,0,none⟩) xs.length cap1 ys.length (some ⟨b2,0,none⟩) cap2 w _ _ hm hlc1 (.inl ⟨b1,rfl⟩) hr).mono ?_
    rintro e w' ⟨rfl,rfl⟩
    obtain ⟨val,Pr',Gs,Os,us,hv,hp⟩:=quf pre elz hFs hob3 (cap:=cap1) (by rw[hw1];omega) (by rw[hlz];exact hroom) htake (.inr ⟨0,hbF1⟩) hFBb (fun b' _ hb'=>qbg cells2 _ w b' hb') (by rw[q7];exact Nat.le_refl _) (by rw[q7];exact pre.lim 0 b1 hbF1) hrest.1 hrest.2.1 hrest.2.2 () (houts _ _ _ _)
    exact ⟨val,Pr',Gs,Os,us,by rw[←hv,hlz],hp⟩
   ·have hg:cap1<xs.length+ys.length:=by omega
    have hn2d:(Builtin.firstCells i0.size ys.length (.slice (some ⟨b2,0,none⟩) ys.length cap2)).run Tryz.prog w.drew=.ok cells2.toArray w.drew:=by
     rw[hs0]
     exact qf5 hl2' (.inr ⟨b2,0,rfl,qc6 (by rw[hcells2];exact qbt hbo2.blk (by omega))⟩)
    have hn1d:(Builtin.firstCells i0.size xs.length (.slice ad1 xs.length cap1)).run Tryz.prog w.drew=.ok cells1.toArray w.drew:=by
     rw[hs0]
     refine qf5 hl1' ?_
     rcases hsrc1 with ⟨h1,h2⟩ | ⟨b,o,cs,h1,h2,h3,h4⟩
     ·exact .inl ⟨h1,h2⟩
     ·exact .inr ⟨b,o,h1,qc6 (h4 ▸ qbt h2 h3)⟩
    have hfit:Builtin.nextslicecap (xs.length+ys.length) cap1 * i0.bytes≤281474976710656:=by
     have:=Room.nextslicecap_le' (need:=xs.length+ys.length) (old:=cap1) hg
     rw[hb0];omega
    have hr:=fun ty=>qut (P:=Tryz.prog) w (ats:=#[35,35]) (ty:=ty) rfl rfl uT uT hi0 hz0 hn2d hn1d hg (by omega) hfit
    have hge:=grownCap_ge w (xs.length+ys.length) cap1 42
    generalize grownCap w (xs.length+ys.length) cap1 42=cap' at hr hge
    have hcss:(cells1.toArray++cells2.toArray++Builtin.zeroCells z0.cells (cap' - (xs.length+ys.length))).size=cap' * 2:=by
     simp only[Array.size_append,List.size_toArray,size_zeroCells,hzs,hl1',hl2'];omega
    have htk:(cells1.toArray++cells2.toArray++Builtin.zeroCells z0.cells (cap' - (xs.length+ys.length))).toList.take ((xs.length+ys.length) * 2)=cells1++cells2:=by
     simp only[Array.toList_append,List.append_assoc]
     rw[←List.append_assoc,List.take_append_of_le_length (by rw[List.length_append];omega),List.take_of_length_le (by rw[List.length_append];omega)]
    generalize cells1.toArray++cells2.toArray++Builtin.zeroCells z0.cells (cap' - (xs.length+ys.length))=cs at hr hcss htk
    have h1a:(∃ b,ad1=some ⟨b,0,none⟩)∨(xs.length=0∧cap1=0):=by
     rcases hown1 0 _ rfl with hc0 | ⟨b1,cs1,rfl,_⟩
     ·exact .inr ⟨by omega,hc0⟩
     ·exact .inl ⟨b1,rfl⟩
    refine (qbkt ad1 xs.length cap1 ys.length (some ⟨b2,0,none⟩) cap2 w _ _ hm hlc1 h1a hr).mono ?_
    rintro e w' ⟨rfl,rfl⟩
    obtain ⟨val,Pr',Gs,Os,us,hv,hp⟩:=quf (w2:=w.drew.alloc (.cells cs 42)) pre elz hFs (B:=w.heap.size) (cs:=cs) qbf.new (cap:=cap') (by rw[hw1,hcss];exact Nat.le_refl _) (by rw[hlz];exact hge) (by rw[hw1,hlz];exact htk) (.inl rfl)
     (fun t hb=>by obtain ⟨k,hk⟩:=hFs t _ hb;exact Nat.lt_irrefl _ (pre.lim k _ hk)) (fun b' hb1 _=>qgs b' hb1) (by show w.heap.size≤(w.heap.push _).size;simp) (by show w.heap.size<(w.heap.push _).size;simp) rfl rfl rfl () (houts _ _ _ _)
    exact ⟨val,Pr',Gs,Os,us,by rw[←hv,hlz],hp⟩
  ·have hlt:i<xs.length:=by omega
   rcases hown1 0 _ rfl with hc0 | ⟨b1,cs1,rfl,hbF1,hbo1,hcapb1,hFb1,hcells1⟩
   ·exact absurd hc0 (by omega)
   replace hcapb1:cap1 * 2≤cs1.size:=by rw[hw1] at hcapb1;exact hcapb1
   replace hcells1:cells1=sub cs1 0 (xs.length * 2):=by rw[hcells1,hw1]
   have hb12:b2≠b1:=fun e=>pre.dis 0 2 (by decide) b1 hbF1 (e ▸ hbF2)
   have hcd:cells1.drop (i * 2)=sub cs1 (i * 2) ((xs.length - i) * 2):=by
    rw[hcells1]
    simp only[sub,List.drop_zero,List.drop_take]
    congr 1;omega
   have hct:cells1.take (i * 2)=cs1.toList.take (i * 2):=by
    rw[hcells1]
    simp only[sub,List.drop_zero,List.take_take]
    congr 1;omega
   have hdl:(cells1.drop (i * 2)).length=(xs.length - i) * 2:=by rw[List.length_drop,hl1'];omega
   have honed:∀ u∈cells1.drop (i * 2),u.oneCell'=true:=fun u hu=>hone1 u (List.mem_of_mem_drop hu)
   have hFBb:∀ t,¬ FF t b1:=fun t hb=>by
    rcases hFF t b1 hb with ⟨c,hc⟩ | ⟨c,hc⟩
    ·exact hFb1 c hc
    ·exact pre.dis 0 2 (by decide) b1 hbF1 (hF2 c b1 hc)
   by_cases hroom:xs.length+ys.length≤cap1
   ·have hov:∀ lb cb,(callFunc 156 #[.slice (some ⟨b2,0,none⟩) ys.length cap2,.slice (some ⟨b1,(i+ys.length) * 2,none⟩) lb cb]).run Tryz.prog w=.ok (.value (.bool false)) w:=by
     intro lb cb
     obtain ⟨e2,lo2,hi2,he2,hf2⟩:=hbo2
     obtain ⟨e1,lo1,hi1,he1,hf1⟩:=hbo1
     have hnf:∀ k,k≤cs2.size→w.frozen? ⟨b2,k,none⟩=false:=fun k hk=>by
      have:=hf2 k hk
      simp only[World.frozen?,he2]
      simpa using this
     rw[run_callFunc_extern (P:=Tryz.prog) (f:=156) (fn:=Tryz.f156) Tryz.func156 (by kernel_rfl) (by kernel_rfl) (by kernel_rfl) (e:=Extern.SlicesOverlaps.overlaps #[35,35] #[4]) (by kernel_rfl),
      Lib.run_overlaps_apart w 35 4 42 uT 2 (fun w=>by simp[sizeOf,typeInfo,hi0,hs0]) ⟨b2,0,none⟩ ⟨b1,(i+ys.length) * 2,none⟩ ys.length cap2 lb cb hb12 e2 e1 cs2.size cs1.size (by simp[World.shape?,he2]) (by simp[World.shape?,he1]) (by omega) (hnf 0 (by omega)) (hnf _ (Nat.le_refl _))]
     rfl
    have hfitA:(i+ys.length) * 2+(cells1.drop (i * 2)).length≤cs1.size:=by rw[hdl];omega
    have thA:=qec (w:=w) (o:=(i+ys.length) * 2) (n:=(cells1.drop (i * 2)).length) hbo1 hfitA
    have hB:∀ ty dc sc,(Builtin.copy_ #[35,35] ty #[.slice (some ⟨b1,(i+ys.length) * 2,none⟩) (xs.length+ys.length - (i+ys.length)) dc,.slice (some ⟨b1,i * 2,none⟩) (xs.length+ys.length - i) sc]).run Tryz.prog w.drew=.ok (goInt (Nat.min (xs.length+ys.length - i) (xs.length+ys.length - (i+ys.length)))) (w.drew.setCells b1 ((i+ys.length) * 2) (cells1.drop (i * 2))):=fun ty dc sc=>
     qs8 w.drew 35 35 ty 42 b1 ((i+ys.length) * 2) _ dc ⟨b1,i * 2,none⟩ _ sc (cells1.drop (i * 2)) uT hi0 (by rw[hdl,hs0];simp only[Nat.min_def];split<;>omega)
      (fun k v hk=>by rw[Addr.add_mid];exact qc6 (w:=w) (b:=b1) (o:=i * 2) (cs:=cells1.drop (i * 2)) (by rw[hcd];exact qbt hbo1.blk (by omega)) k v hk) (fun k hk=>(thA k hk).1) (fun k hk=>(thA k hk).2) honed
    obtain ⟨ty,lo,hi',he,hfz⟩:=hbo1
    obtain ⟨cs3,hcs3,hcs3l⟩:=qda (cells1.drop (i * 2)) ((i+ys.length) * 2) w.drew cs1 he hfitA
    have hsz3:cs3.size=cs1.size:=by rw[←Array.length_toList,hcs3l,qcf (by simpa using hfitA),Array.length_toList]
    have hob3:qbf (w.drew.setCells b1 ((i+ys.length) * 2) (cells1.drop (i * 2))).heap b1 cs3:=⟨ty,lo,hi',hcs3,fun t ht=>hfz t (by omega)⟩
    have hfitB:i * 2+cells2.length≤cs3.size:=by omega
    have thB:=qec (w:=w.drew.setCells b1 ((i+ys.length) * 2) (cells1.drop (i * 2))) (o:=i * 2) (n:=cells2.length) hob3 hfitB
    have hr2:(w.drew.setCells b1 ((i+ys.length) * 2) (cells1.drop (i * 2))).rangeAt b2 0 cells2:=by
     rw[hcells2]
     exact qbt (Blk.congr hbo2.blk (qbg (cells1.drop (i * 2)) _ w.drew b2 hb12)) (by omega)
    have hC:∀ ty dc,(Builtin.copy_ #[35,35] ty #[.slice (some ⟨b1,i * 2,none⟩) (xs.length+ys.length - i) dc,.slice (some ⟨b2,0,none⟩) ys.length cap2]).run Tryz.prog (w.drew.setCells b1 ((i+ys.length) * 2) (cells1.drop (i * 2)))=.ok (goInt (Nat.min ys.length (xs.length+ys.length - i))) ((w.drew.setCells b1 ((i+ys.length) * 2) (cells1.drop (i * 2))).setCells b1 (i * 2) cells2):=fun ty dc=>
     qs8 _ 35 35 ty 42 b1 (i * 2) _ dc ⟨b2,0,none⟩ _ cap2 cells2 uT hi0 (by rw[hl2',hs0];simp only[Nat.min_def];split<;>omega)
      (fun k v hk=>by rw[Addr.add_mid];exact hr2 k v hk) (fun k hk=>(thB k hk).1) (fun k hk=>(thB k hk).2) hone2
    obtain ⟨cs4,hcs4,hcs4l⟩:=qda cells2 (i * 2) _ cs3 hcs3 hfitB
    have hsz4:cs4.size=cs3.size:=by rw[←Array.length_toList,hcs4l,qcf (by simpa using hfitB),Array.length_toList]
    have hob4:qbf ((w.drew.setCells b1 ((i+ys.length) * 2) (cells1.drop (i * 2))).setCells b1 (i * 2) cells2).heap b1 cs4:=⟨ty,lo,hi',hcs4,fun t ht=>hfz t (by omega)⟩
    have h7:cs1.toList.length=cs1.size:=Array.length_toList
    have htake:cs4.toList.take ((xs.take i++ys++xs.drop i).length * TWay.width)=cells1.take (i * 2)++cells2++cells1.drop (i * 2):=by
     have e:=qbrz (l:=cs1.toList) (D:=cells1.drop (i * 2)) (C:=cells2) (i:=i * 2) (m:=ys.length * 2) hl2' (by rw[h7,←Nat.add_mul];exact hfitA)
     rw[hw1,hlz,hcs4l,hcs3l,hct,Nat.add_mul i]
     rw[show (xs.length+ys.length) * 2=i * 2+ys.length * 2+(cells1.drop (i * 2)).length by rw[hdl];omega]
     exact e
    have hrest1:=qce (b:=b1) (cells1.drop (i * 2)) ((i+ys.length) * 2) w.drew
    have hrest2:=qce (b:=b1) cells2 (i * 2) (w.drew.setCells b1 ((i+ys.length) * 2) (cells1.drop (i * 2)))
    have hsize:((w.drew.setCells b1 ((i+ys.length) * 2) (cells1.drop (i * 2))).setCells b1 (i * 2) cells2).heap.size=w.heap.size:=by rw[q7,q7];rfl
    refine (qbof b1 xs.length cap1 i ys.length ⟨b2,0,none⟩ cap2 w _ _ _ _ hlt hm hroom (by omega) hov hB hC).mono ?_
    rintro e w' ⟨rfl,rfl⟩
    obtain ⟨val,Pr',Gs,Os,us,hv,hp⟩:=quf pre elz hFs hob4 (cap:=cap1) (by rw[hw1];omega) (by rw[hlz];exact hroom) htake (.inr ⟨0,hbF1⟩) hFBb
     (fun b' _ hb'=>(qbg cells2 _ _ b' hb').trans (qbg (cells1.drop (i * 2)) _ w.drew b' hb')) (by rw[hsize];exact Nat.le_refl _) (by rw[hsize];exact pre.lim 0 b1 hbF1) (hrest2.1.trans hrest1.1) (hrest2.2.1.trans hrest1.2.1) (hrest2.2.2.trans hrest1.2.2) () (houts _ _ _ _)
    exact ⟨val,Pr',Gs,Os,us,by rw[←hv,hlz],hp⟩
   ·have hg:cap1<xs.length+ys.length:=by omega
    obtain ⟨K,hK⟩:∃ K,K=xs.length+ys.length - i:=⟨_,rfl⟩
    have hKi:i+K=xs.length+ys.length:=by omega
    have hn1d:(Builtin.firstCells i0.size i (.slice (some ⟨b1,0,none⟩) i cap1)).run Tryz.prog w.drew=.ok (cells1.take (i * 2)).toArray w.drew:=by
     rw[hs0]
     refine qf5 (by rw[List.length_take,hl1'];omega) (.inr ⟨b1,0,rfl,qc6 ?_⟩)
     have e:cells1.take (i * 2)=sub cs1 0 (i * 2):=by rw[hct];simp only[sub,List.drop_zero]
     rw[e];exact qbt hbo1.blk (by omega)
    have hfit:Builtin.nextslicecap (i+K) cap1 * i0.bytes≤281474976710656:=by
     have:=Room.nextslicecap_le' (need:=i+K) (old:=cap1) (by omega)
     rw[hb0];omega
    have hr:=fun ty=>Lib.run_append_grow_zeros (P:=Tryz.prog) w 35 3 ty 42 i0 _ .i64 .i64 uT u3 hi0 hz0 (some ⟨b1,0,none⟩) i cap1 (cells1.take (i * 2)) hn1d K (by omega) (by omega) (by omega) (by omega) (by rw[hb0];omega) hfit
    have hge:=grownCap_ge w (i+K) cap1 42
    generalize grownCap w (i+K) cap1 42=cap' at hr hge
    have hcss:((cells1.take (i * 2)).toArray++Builtin.zeroCells z0.cells K++Builtin.zeroCells z0.cells (cap' - (i+K))).size=cap' * 2:=by
     simp only[Array.size_append,List.size_toArray,size_zeroCells,hzs,List.length_take,hl1'];omega
    have htk:((cells1.take (i * 2)).toArray++Builtin.zeroCells z0.cells K++Builtin.zeroCells z0.cells (cap' - (i+K))).toList.take (i * 2)=cells1.take (i * 2):=by
     simp only[Array.toList_append,List.append_assoc]
     rw[List.take_append_of_le_length (by rw[List.length_take,hl1'];omega),List.take_of_length_le (by rw[List.length_take,hl1'];omega)]
    generalize (cells1.take (i * 2)).toArray++Builtin.zeroCells z0.cells K++Builtin.zeroCells z0.cells (cap' - (i+K))=cs0 at hr hcss htk
    rw[hKi] at hr hge
    have hKI:((K:Nat):Int)=(xs.length:Int)+(ys.length:Int) - (i:Int):=by omega
    rw[hKI] at hr
    have hob0:qbf (w.drew.alloc (.cells cs0 42)).heap w.heap.size cs0:=qbf.new
    have hb1lt:=pre.lim 0 b1 hbF1
    have hb2lt:=pre.lim 2 b2 hbF2
    have hb1B:b1≠w.heap.size:=by omega
    have hb2B:b2≠w.heap.size:=by omega
    have hold:∀ b',b'<w.heap.size→(w.drew.alloc (.cells cs0 42)).heap[b']? = w.heap[b']?:=fun b' hb'=>qgs b' hb'
    have hfitA:i * 2+cells2.length≤cs0.size:=by omega
    have thA:=qec (w:=w.drew.alloc (.cells cs0 42)) (o:=i * 2) (n:=cells2.length) hob0 hfitA
    have hr2:(w.drew.alloc (.cells cs0 42)).rangeAt b2 0 cells2:=by
     rw[hcells2]
     exact qbt (Blk.congr hbo2.blk (hold b2 hb2lt)) (by omega)
    have hB:∀ ty,(Builtin.copy_ #[35,35] ty #[.slice (some ⟨w.heap.size,i * 2,none⟩) (xs.length+ys.length - i) (cap' - i),.slice (some ⟨b2,0,none⟩) ys.length cap2]).run Tryz.prog (w.drew.alloc (.cells cs0 42))=.ok (goInt (Nat.min ys.length (xs.length+ys.length - i))) ((w.drew.alloc (.cells cs0 42)).setCells w.heap.size (i * 2) cells2):=fun ty=>
     qs8 _ 35 35 ty 42 w.heap.size (i * 2) _ _ ⟨b2,0,none⟩ _ cap2 cells2 uT hi0 (by rw[hl2',hs0];simp only[Nat.min_def];split<;>omega)
      (fun k v hk=>by rw[Addr.add_mid];exact hr2 k v hk) (fun k hk=>(thA k hk).1) (fun k hk=>(thA k hk).2) hone2
    obtain ⟨ty,lo,hi',he,hfz⟩:=hob0
    obtain ⟨cs3,hcs3,hcs3l⟩:=qda cells2 (i * 2) (w.drew.alloc (.cells cs0 42)) cs0 he hfitA
    have h7:cs0.toList.length=cs0.size:=Array.length_toList
    have hsz3:cs3.size=cs0.size:=by rw[←Array.length_toList,hcs3l,qcf (by simpa using hfitA),Array.length_toList]
    have hob3:qbf ((w.drew.alloc (.cells cs0 42)).setCells w.heap.size (i * 2) cells2).drew.heap w.heap.size cs3:=⟨ty,lo,hi',hcs3,fun t ht=>hfz t (by omega)⟩
    have hfitB:(i+ys.length) * 2+(cells1.drop (i * 2)).length≤cs3.size:=by rw[hdl];omega
    have thB:=qec (w:=((w.drew.alloc (.cells cs0 42)).setCells w.heap.size (i * 2) cells2).drew) (o:=(i+ys.length) * 2) (n:=(cells1.drop (i * 2)).length) hob3 hfitB
    have hr1:((w.drew.alloc (.cells cs0 42)).setCells w.heap.size (i * 2) cells2).drew.rangeAt b1 (i * 2) (cells1.drop (i * 2)):=by
     rw[hcd]
     exact qc6 (qbt (Blk.congr hbo1.blk ((qbg cells2 _ _ b1 hb1B).trans (hold b1 hb1lt))) (by omega))
    have hC:∀ ty,(Builtin.copy_ #[35,35] ty #[.slice (some ⟨w.heap.size,(i+ys.length) * 2,none⟩) (xs.length+ys.length - (i+ys.length)) (cap' - (i+ys.length)),.slice (some ⟨b1,i * 2,none⟩) (xs.length - i) (cap1 - i)]).run Tryz.prog ((w.drew.alloc (.cells cs0 42)).setCells w.heap.size (i * 2) cells2).drew=.ok (goInt (Nat.min (xs.length - i) (xs.length+ys.length - (i+ys.length)))) (((w.drew.alloc (.cells cs0 42)).setCells w.heap.size (i * 2) cells2).drew.setCells w.heap.size ((i+ys.length) * 2) (cells1.drop (i * 2))):=fun ty=>
     qs8 _ 35 35 ty 42 w.heap.size ((i+ys.length) * 2) _ _ ⟨b1,i * 2,none⟩ _ _ (cells1.drop (i * 2)) uT hi0 (by rw[hdl,hs0];simp only[Nat.min_def];split<;>omega)
      (fun k v hk=>by rw[Addr.add_mid];exact hr1 k v hk) (fun k hk=>(thB k hk).1) (fun k hk=>(thB k hk).2) honed
    obtain ⟨cs4,hcs4,hcs4l⟩:=qda (cells1.drop (i * 2)) ((i+ys.length) * 2) ((w.drew.alloc (.cells cs0 42)).setCells w.heap.size (i * 2) cells2).drew cs3 hcs3 hfitB
    have hsz4:cs4.size=cs3.size:=by rw[←Array.length_toList,hcs4l,qcf (by simpa using hfitB),Array.length_toList]
    have hob4:qbf (((w.drew.alloc (.cells cs0 42)).setCells w.heap.size (i * 2) cells2).drew.setCells w.heap.size ((i+ys.length) * 2) (cells1.drop (i * 2))).heap w.heap.size cs4:=⟨ty,lo,hi',hcs4,fun t ht=>hfz t (by omega)⟩
    have htake:cs4.toList.take ((xs.take i++ys++xs.drop i).length * TWay.width)=cells1.take (i * 2)++cells2++cells1.drop (i * 2):=by
     have e:=qbr5 (l:=cs0.toList) (D:=cells1.drop (i * 2)) (C:=cells2) (i:=i * 2) (m:=ys.length * 2) hl2' (by rw[h7];omega)
     rw[hw1,hlz,hcs4l,hcs3l,←htk,Nat.add_mul i]
     rw[show (xs.length+ys.length) * 2=i * 2+ys.length * 2+(cells1.drop (i * 2)).length by rw[hdl];omega]
     exact e
    have hrest1:=qce (b:=w.heap.size) cells2 (i * 2) (w.drew.alloc (.cells cs0 42))
    have hrest2:=qce (b:=w.heap.size) (cells1.drop (i * 2)) ((i+ys.length) * 2) ((w.drew.alloc (.cells cs0 42)).setCells w.heap.size (i * 2) cells2).drew
    have hsize:(((w.drew.alloc (.cells cs0 42)).setCells w.heap.size (i * 2) cells2).drew.setCells w.heap.size ((i+ys.length) * 2) (cells1.drop (i * 2))).heap.size=w.heap.size+1:=by
     rw[q7]
     show ((w.drew.alloc (.cells cs0 42)).setCells w.heap.size (i * 2) cells2).heap.size=_
     rw[q7];show (w.heap.push _).size=_;simp
    refine (qbpe b1 xs.length cap1 i ys.length ⟨b2,0,none⟩ cap2 w.heap.size cap' w _ _ _ _ _ hlt hm hlc1 hg hge (by omega) hr hB hC).mono ?_
    rintro e w' ⟨rfl,rfl⟩
    obtain ⟨val,Pr',Gs,Os,us,hv,hp⟩:=quf pre elz hFs hob4 (cap:=cap') (by rw[hw1];omega) (by rw[hlz];exact hge) htake (.inl rfl)
     (fun t hb=>by obtain ⟨k,hk⟩:=hFs t _ hb;exact Nat.lt_irrefl _ (pre.lim k _ hk))
     (fun b' hb1 hb'=>(qbg (cells1.drop (i * 2)) _ _ b' hb').trans ((qbg cells2 _ _ b' hb').trans (hold b' hb1))) (by rw[hsize];omega) (by rw[hsize];omega) (hrest2.1.trans hrest1.1) (hrest2.2.1.trans hrest1.2.1) (hrest2.2.2.trans hrest1.2.2) () (houts _ _ _ _)
    exact ⟨val,Pr',Gs,Os,us,by rw[←hv,hlz],hp⟩
 ·simp at h
end Go.V

namespace Go.V
set_option maxRecDepth 100000
open Go Go.Proofs Go.RowKit
def insA (a:PDen SigI.params):Option (RDen SigI.res×ODen SigI.params):=(insD a.1 a.2.1 a.2.2.1).map fun r=>((r,()),())
def delA (a:PDen SigD.params):Option (RDen SigD.res×ODen SigD.params):=(delD a.1 a.2.1 a.2.2.1).map fun r=>((r,()),())
def qbgb (a:PDen SigW.params):Option (RDen SigW.res×ODen SigW.params):=(insW a.1 a.2.1 a.2.2.1).map fun r=>((r,()),())
def cmpA (a:PDen SigC.params):Option (RDen SigC.res×ODen SigC.params):=some ((scmp a.1 a.2.1,()),())
noncomputable def quu:Den ctx:=fun g a=>
 if h:g=192 then qri (f:=g) (by rw[h];exact sigC) cmpA a else
 if h:g=88 then qri (f:=g) (by rw[h];exact sigI) insA a else
 if h:g=95 then qri (f:=g) (by rw[h];exact sigD) delA a else
 if h:g=93 then qri (f:=g) (by rw[h];exact sigW) qbgb a else
 none
theorem qblf:quu 192=qri sigC cmpA:=by
 funext a
 simp only[quu,dif_pos]
theorem qbk5:quu 88=qri sigI insA:=by
 funext a
 simp only[quu,dif_pos,dif_neg (show ¬ (88:Nat)=192 by decide)]
theorem qbj3:quu 95=qri sigD delA:=by
 funext a
 simp only[quu,dif_pos,dif_neg (show ¬ (95:Nat)=192 by decide),dif_neg (show ¬ (95:Nat)=88 by decide)]
theorem qbk9:quu 93=qri sigW qbgb:=by
 funext a
 simp only[quu,dif_pos,dif_neg (show ¬ (93:Nat)=192 by decide),dif_neg (show ¬ (93:Nat)=88 by decide),dif_neg (show ¬ (93:Nat)=95 by decide)]
def qbe6 (f:FuncId):Bool:=f.beq 192||f.beq 88||f.beq 95||f.beq 93
theorem qbka {f:FuncId} (h:qbe6 f=true):f=192∨f=88∨f=95∨f=93:=by
 simp only[qbe6,Bool.or_eq_true] at h
 rcases h with ((h1 | h2) | h3) | h4
 ·exact .inl (Nat.eq_of_beq_eq_true h1)
 ·exact .inr (.inl (Nat.eq_of_beq_eq_true h2))
 ·exact .inr (.inr (.inl (Nat.eq_of_beq_eq_true h3)))
 ·exact .inr (.inr (.inr (Nat.eq_of_beq_eq_true h4)))
theorem qbtq:qma Tryz.prog 88:=⟨Tryz.f88,Tryz.func88,by decide +kernel,rfl⟩
theorem qbth:qma Tryz.prog 95:=⟨Tryz.f95,Tryz.func95,by decide +kernel,rfl⟩
theorem qbtf:qma Tryz.prog 93:=⟨Tryz.f93,Tryz.func93,by decide +kernel,rfl⟩
noncomputable def qqt:Ext where
 den:=quu
 is:=qbe6
 ok:=fun f hf=>by
  rcases qbka hf with rfl | rfl | rfl | rfl
  ·exact qbal sigC qblf qbtn
  ·exact qbal sigI qbk5 qbti
  ·exact qbal sigD qbj3 qbtp
  ·exact qbal sigW qbk9 qbsd
 call:=fun f a r hf _=>by
  rcases qbka hf with rfl | rfl | rfl | rfl
  ·exact qbj9
  ·exact qbtq
  ·exact qbth
  ·exact qbtf
theorem qbtu (a b:ByteArray):qri sigC cmpA (a,b,())=cmpA (a,b,()):=by kernel_rfl
theorem qbsp (n:Nat) (a b:ByteArray):DD qqt (n+1) 192 (a,b,())=cmpA (a,b,()):=
 (qbgc qqt (g:=192) rfl n (a,b,())).trans ((congrFun qblf (a,b,())).trans (qbtu a b))
theorem qbtr (xs:List TRow.den) (i:Int) (ys:List TRow.den):qri sigI insA (xs,i,ys,())=insA (xs,i,ys,()):=by kernel_rfl
theorem qbs0 (n:Nat) (xs:List TRow.den) (i:Int) (ys:List TRow.den):DD qqt (n+1) 88 (xs,i,ys,())=insA (xs,i,ys,()):=
 (qbgc qqt (g:=88) rfl n (xs,i,ys,())).trans ((congrFun qbk5 (xs,i,ys,())).trans (qbtr xs i ys))
theorem qbtt (xs:List TRow.den) (i j:Int):qri sigD delA (xs,i,j,())=delA (xs,i,j,()):=by kernel_rfl
theorem qbs4 (n:Nat) (xs:List TRow.den) (i j:Int):DD qqt (n+1) 95 (xs,i,j,())=delA (xs,i,j,()):=
 (qbgc qqt (g:=95) rfl n (xs,i,j,())).trans ((congrFun qbj3 (xs,i,j,())).trans (qbtt xs i j))
theorem qbt4 (xs:List TWay.den) (i:Int) (ys:List TWay.den):qri sigW qbgb (xs,i,ys,())=qbgb (xs,i,ys,()):=by kernel_rfl
theorem qbr9 (n:Nat) (xs:List TWay.den) (i:Int) (ys:List TWay.den):DD qqt (n+1) 93 (xs,i,ys,())=qbgb (xs,i,ys,()):=
 (qbgc qqt (g:=93) rfl n (xs,i,ys,())).trans ((congrFun qbk9 (xs,i,ys,())).trans (qbt4 xs i ys))
theorem qbrf {k:Nat} (h192:Nat.beq k 192=false) (h88:Nat.beq k 88=false) (h95:Nat.beq k 95=false) (h93:Nat.beq k 93=false):qbe6 k=false:=by
 simp only[qbe6,Bool.or_eq_false_iff]
 exact ⟨⟨⟨h192,h88⟩,h95⟩,h93⟩
end Go.V

namespace Go.G
set_option maxRecDepth 100000
open Go Go.V Go.Proofs
structure XI (X:Ext):Prop extends XC X where
 ins:∀ n xs i ys,qep (DD X (n+1)) xs i ys=(insD xs i ys).map fun r=>((r,()),())
 del:∀ n xs i j,qif (DD X (n+1)) xs i j=(delD xs i j).map fun r=>((r,()),())
 way:∀ n xs i ys,qsx (DD X (n+1)) xs i ys=(insW xs i ys).map fun r=>((r,()),())
theorem qbqe:XI qqt where
 ok:=fun k h=>by
  simp only[Bool.or_eq_false_iff] at h
  obtain ⟨⟨⟨a,b⟩,c⟩,d⟩:=h
  exact qbrf (by assumption) (by assumption) (by assumption) (by assumption)
 cmp:=qbsp
 ins:=fun n xs i ys=>qbs0 n xs i ys
 del:=fun n xs i j=>qbs4 n xs i j
 way:=fun n xs i ys=>qbr9 n xs i ys
theorem q4z (a:Rel):(((a.1.1,a.1.2.1,a.1.2.2.1,()),a.2.1,()):Rel)=a:=rfl
theorem qbnk (a:qz):((a.1,a.2.1,a.2.2.1,()):qz)=a:=rfl
theorem qbq7 (D:Den ctx) (r:Rel) (row x:Row):qca ctx D (Clo.mk 85 [CapV.rptr (Ty.pair (Ty.pair (Ty.sl (Ty.pair Ty.str (Ty.pair (Ty.int IntKind.i64) (Ty.pair Ty.bool Ty.unit)))) (Ty.pair (Ty.sl (Ty.int IntKind.i64)) (Ty.pair (Ty.sl (Ty.pair Ty.str (Ty.pair (Ty.sl (Ty.int IntKind.i64)) (Ty.pair Ty.bool Ty.unit)))) Ty.unit))) (Ty.pair (Ty.sl (Ty.sl (Ty.pair (Ty.int IntKind.i64) (Ty.pair (Ty.int IntKind.i64) (Ty.pair Ty.str Ty.unit))))) Ty.unit)) r,CapV.rptr (Ty.sl (Ty.pair (Ty.int IntKind.i64) (Ty.pair (Ty.int IntKind.i64) (Ty.pair Ty.str Ty.unit)))) row]) [CapV.val (Ty.sl (Ty.pair (Ty.int IntKind.i64) (Ty.pair (Ty.int IntKind.i64) (Ty.pair Ty.str Ty.unit)))) x] Ty.bool=(q3z D x r row).bind fun q=>some q.1.1:=by kernel_rfl
theorem qbq6 (D:Den ctx) (r:Rel) (key x:Row):qca ctx D (Clo.mk 87 [CapV.rptr (Ty.sl (Ty.pair (Ty.int IntKind.i64) (Ty.pair (Ty.int IntKind.i64) (Ty.pair Ty.str Ty.unit)))) key,CapV.rptr (Ty.pair (Ty.pair (Ty.sl (Ty.pair Ty.str (Ty.pair (Ty.int IntKind.i64) (Ty.pair Ty.bool Ty.unit)))) (Ty.pair (Ty.sl (Ty.int IntKind.i64)) (Ty.pair (Ty.sl (Ty.pair Ty.str (Ty.pair (Ty.sl (Ty.int IntKind.i64)) (Ty.pair Ty.bool Ty.unit)))) Ty.unit))) (Ty.pair (Ty.sl (Ty.sl (Ty.pair (Ty.int IntKind.i64) (Ty.pair (Ty.int IntKind.i64) (Ty.pair Ty.str Ty.unit))))) Ty.unit)) r]) [CapV.val (Ty.sl (Ty.pair (Ty.int IntKind.i64) (Ty.pair (Ty.int IntKind.i64) (Ty.pair Ty.str Ty.unit)))) x] Ty.bool=(q34 D x key r).bind fun q=>some q.1.1:=by kernel_rfl
theorem qboh {r:Rel} {key:Row} (hk:∀ x∈r.2.1,qk x r.1.2.1≠key):(match qy (fun i=>tlt key (qk (r.2.1.getD i []) r.1.2.1)) 0 r.2.1.length with | some j=>j | none=>r.2.1.length)=qdm r key:=by
 have e:qy (fun i=>tlt key (qk (r.2.1.getD i []) r.1.2.1)) 0 r.2.1.length=qy (fun i=>!tlt (qk (r.2.1.getD i []) r.1.2.1) key) 0 r.2.1.length:=by
  refine quq fun i _ hi=>?_
  have hi:i<r.2.1.length:=by omega
  show tlt key (qk (r.2.1.getD i []) r.1.2.1)=!tlt (qk (r.2.1.getD i []) r.1.2.1) key
  rcases q9y key (qk (r.2.1.getD i []) r.1.2.1) with h | h | h
  ·rw[h,qbiq h];rfl
  ·exact absurd h.symm (hk _ (qbk hi))
  ·rw[h,qbiq h];rfl
 refine (congrArg (fun z:Option Nat=>match z with | some j=>j | none=>r.2.1.length) e).trans ?_
 unfold qdm
 generalize qy (fun i=>!tlt (qk (r.2.1.getD i []) r.1.2.1) key) 0 r.2.1.length=z
 cases z with
 | some j=>exact rfl
 | none=>exact rfl
theorem qbmw {r:Rel} {row:Row} (hok:qcs r=true) (hrow:qju r.1 row=true) (hk:qgm r (qk row r.1.2.1)=none) (ho:others r row (-1)=false) (hl:¬ (r.2.1.length:Int)≥12):qc9 r row=(put r row,0):=by
 unfold qc9
 rw[if_pos ⟨hok,hrow⟩,hk]
 dsimp only
 rw[ho,if_neg Bool.noConfusion,if_neg hl]
 rfl
theorem qbkh {X:Ext} (hX:XI X) {n:Nat} (hn:W+12≤n) (r:Rel) (hr:RelSm r) (row:Row) (hw:row.length≤M):qzl (DD X n) r row=some (((qc9 r row).1,(qc9 r row).2,()),()):=by
 obtain ⟨n,rfl⟩:∃ k,n=k+2:=⟨n - 2,by omega⟩
 have hM:=qbl
 have hb:=qcu
 have hd:=qcw
 have hW:=qcb
 have h2:=hr.rows
 have hkl:=hr.sch.key
 rw[qbjk hX.ok]
 simp only[qz5,q62]
 have e1:=qw5 hX.ok (n:=n+1) (by omega) r hr
 have e2:=qil hX.toXC (n:=n+1) (by omega) r hr
 have e3:=q4m hX.ok (n:=n+1) (by omega) r.1 hr.sch row hw
 have e4:=qj6 hX.ok (n:=n+1) (by omega) r.1 row hw hkl
 have e5:=q99 hX.ok (n:=n+1) (by omega) r hr (qk row r.1.2.1)
 rw[e1,qf]
 dsimp only
 simp only[q4z,qbnk]
 rw[e4,qf]
 dsimp only
 rw[e2,qf]
 dsimp only
 have hins:qc9 r row=qc9 r row:=rfl
 cases hok:qcs r
 ·have:qc9 r row=(r,1):=by unfold qc9;rw[if_neg (fun h=>by rw[hok] at h;cases h.1)]
  rw[this];rfl
 ·rw[Bool.not_true,br_f,e3,qf]
  dsimp only
  cases hrow:qju r.1 row
  ·have:qc9 r row=(r,1):=by unfold qc9;rw[if_neg (fun h=>by rw[hrow] at h;cases h.2)]
   rw[this];rfl
  ·rw[Bool.not_true,br_f,e5,qf]
   dsimp only
   cases hk:qgm r (qk row r.1.2.1) with
   | some j=>
    have:qc9 r row=(r,2):=by unfold qc9;rw[if_pos ⟨hok,hrow⟩,hk]
    dsimp only
    rw[this,qn (show (j:Int)≥0 by omega)]
   | none=>
    dsimp only
    rw[qo (by decide)]
    have e6:=qbiv hX.ok (n:=n+1) (by omega) r.2.1 (by omega) (Clo.mk 85 [CapV.rptr (Ty.pair (Ty.pair (Ty.sl (Ty.pair Ty.str (Ty.pair (Ty.int IntKind.i64) (Ty.pair Ty.bool Ty.unit)))) (Ty.pair (Ty.sl (Ty.int IntKind.i64)) (Ty.pair (Ty.sl (Ty.pair Ty.str (Ty.pair (Ty.sl (Ty.int IntKind.i64)) (Ty.pair Ty.bool Ty.unit)))) Ty.unit))) (Ty.pair (Ty.sl (Ty.sl (Ty.pair (Ty.int IntKind.i64) (Ty.pair (Ty.int IntKind.i64) (Ty.pair Ty.str Ty.unit))))) Ty.unit)) r,CapV.rptr (Ty.sl (Ty.pair (Ty.int IntKind.i64) (Ty.pair (Ty.int IntKind.i64) (Ty.pair Ty.str Ty.unit)))) row]) (fun k=>!decide ((k:Int) = -1)&&qik r.1 (r.2.1.getD k []) row) (fun k hk2=>by
     obtain ⟨n,rfl⟩:∃ k,n=k+2:=⟨n - 2,by omega⟩
     rw[qbq7,show n+2+1 - 2=n+1 from rfl,qbf2 hX.ok]
     simp only[qv1,q3y]
     rw[q4k hX.ok (by omega) r.1 hr.sch row _ hw (hr.row _ (qbk hk2)) (q6c hrow),qf,qn3,decide_eq_false (show ¬ (k:Int) = -1 by omega)]
     rfl)
    rw[e6,qf]
    dsimp only
    cases ho:others r row (-1)
    ·have ho2:qv (fun k=>!decide ((k:Int) = -1)&&qik r.1 (r.2.1.getD k []) row) 0 r.2.1.length=false:=ho
     rw[ho2,br_f]
     have h12:r.2.1.length≤12:=((qug r).1 hok).2.1
     by_cases hl:(r.2.1.length:Int)=12
     ·have:qc9 r row=(r,5):=by
       unfold qc9
       rw[if_pos ⟨hok,hrow⟩,hk]
       dsimp only
       rw[ho,if_neg Bool.noConfusion,if_pos (by omega)]
      rw[qn hl,this]
     ·rw[qo hl,qbmw hok hrow hk ho (by omega)]
      have hkn:=qbge hk
      have hle:=q3q r (qk row r.1.2.1)
      have hpl:=qboh hkn
      have e7:=qbcz hX.ok (n:=n+1) (by omega) r.2.1 (by omega) (Clo.mk 87 [CapV.rptr (Ty.sl (Ty.pair (Ty.int IntKind.i64) (Ty.pair (Ty.int IntKind.i64) (Ty.pair Ty.str Ty.unit)))) (qk row r.1.2.1),CapV.rptr (Ty.pair (Ty.pair (Ty.sl (Ty.pair Ty.str (Ty.pair (Ty.int IntKind.i64) (Ty.pair Ty.bool Ty.unit)))) (Ty.pair (Ty.sl (Ty.int IntKind.i64)) (Ty.pair (Ty.sl (Ty.pair Ty.str (Ty.pair (Ty.sl (Ty.int IntKind.i64)) (Ty.pair Ty.bool Ty.unit)))) Ty.unit))) (Ty.pair (Ty.sl (Ty.sl (Ty.pair (Ty.int IntKind.i64) (Ty.pair (Ty.int IntKind.i64) (Ty.pair Ty.str Ty.unit))))) Ty.unit)) r]) (fun i=>tlt (qk row r.1.2.1) (qk (r.2.1.getD i []) r.1.2.1)) (fun i hi=>by
       have l1:=qj4 row r.1.2.1
       obtain ⟨n,rfl⟩:∃ k,n=k+1:=⟨n - 1,by omega⟩
       rw[qbq6,show n+1+1 - 1=n+1 from rfl,qbeb hX.ok]
       simp only[qu4,q3o]
       rw[qj6 hX.ok (by omega) r.1 _ (hr.row _ (qbk hi)) hkl,qf]
       dsimp only
       rw[q3w hX.toXC (by omega) _ _ (by omega),qf]
       rfl)
      rw[e7,qf]
      dsimp only
      have hput:∀ p:Nat,p=qdm r (qk row r.1.2.1)→insD r.2.1 (p:Int) [row]=some (put r row).2.1:=fun p hp=>by
       subst hp
       unfold insD
       rw[if_pos ⟨by omega,by omega,by simp,by simp;omega⟩,Int.toNat_natCast]
       rfl
      cases hf:qy (fun i=>tlt (qk row r.1.2.1) (qk (r.2.1.getD i []) r.1.2.1)) 0 r.2.1.length with
      | none=>
       rw[hf] at hpl
       dsimp only at hpl ⊢
       rw[qn (by decide),qvj hX.ok (by omega) row (by omega),qf,hX.ins]
       dsimp only
       rw[hput _ hpl]
       rfl
      | some j=>
       rw[hf] at hpl
       dsimp only at hpl ⊢
       rw[qo (by omega),qvj hX.ok (by omega) row (by omega),qf,hX.ins]
       dsimp only
       rw[hput _ hpl]
       rfl
    ·have ho2:qv (fun k=>!decide ((k:Int) = -1)&&qik r.1 (r.2.1.getD k []) row) 0 r.2.1.length=true:=ho
     have:qc9 r row=(r,3):=by unfold qc9;rw[if_pos ⟨hok,hrow⟩,hk];dsimp only;rw[ho];rfl
     rw[ho2,br_t,this]
theorem qbj4 {X:Ext} (hX:XI X) {n:Nat} (hn:W+12≤n) (r:Rel) (hr:RelSm r) (key:Row):qz4 (DD X n) r key=some (((qj7 r key).1,(qj7 r key).2,()),()):=by
 obtain ⟨n,rfl⟩:∃ k,n=k+2:=⟨n - 2,by omega⟩
 have hM:=qbl
 have hb:=qcu
 have hW:=qcb
 have h2:=hr.rows
 rw[qbjf hX.ok]
 simp only[qz1,q7c]
 have e1:=qw5 hX.ok (n:=n+1) (by omega) r hr
 have e2:=qil hX.toXC (n:=n+1) (by omega) r hr
 have e5:=q99 hX.ok (n:=n+1) (by omega) r hr key
 rw[e1,qf]
 dsimp only
 simp only[q4z,qbnk]
 rw[e2,qf]
 dsimp only
 unfold qj7
 cases hok:qcs r
 ·rfl
 ·rw[Bool.not_true,br_f,e5,qf,if_pos rfl]
  dsimp only
  cases hk:qgm r key with
  | none=>rfl
  | some j=>
   have hj:=qxm hk
   dsimp only
   rw[qo (show ¬ (j:Int)<0 by omega),qs (by omega),hX.del]
   unfold delD
   rw[if_pos ⟨by omega,by omega,by omega,by omega⟩,Int.toNat_natCast,Int.toNat_natCast]
   rfl
end Go.G

/- The row FnRelations holds: for all bytes the law returns true and the argument reads as before. No condition. -/
namespace Go.G
set_option linter.unusedVariables false
set_option linter.unusedSimpArgs false
set_option maxRecDepth 100000
open Go Go.V Go.Proofs

theorem qbf3 {X:Ext} (hX:XC X) {n:Nat} (hn:W+10≤n) {r:Rel} {x:Rel×Int} (hx:Left r x) (A F:Option ((Bool×Unit)×Unit)) :
  br (x.2 != 0) A (qg (qch (DD X n) x.1) fun b=>br (Prod.fst (Prod.fst b)) A F)=A:=by
 by_cases h:x.2=0
 ·rw[qhz,decide_eq_true h,Bool.not_true,br_f,qil hX hn _ hx.sm,hx.done h,qf,br_t]
 ·rw[qhz,decide_eq_false h,Bool.not_false,br_t]
theorem qbnz {X:Ext} (hX:XC X) {n:Nat} (hn:W+10≤n) {r:Rel} {x:Rel×Int} (hx:Left r x) :
  br (x.2 != 0) (some ((true,()),())) (qg (qch (DD X n) x.1) fun b=>some ((Prod.fst (Prod.fst b),()),()))=some ((true,()),()):=by
 by_cases h:x.2=0
 ·rw[qhz,decide_eq_true h,Bool.not_true,br_f,qil hX hn _ hx.sm,hx.done h,qf]
 ·rw[qhz,decide_eq_false h,Bool.not_false,br_t]
theorem q8g {X:Ext} (hX:XC X) {n:Nat} (hn:W+10≤n) {r:Rel} (hr:RelSm r) {x:Rel×Int} (hx:Left r x) (A F:Option ((Bool×Unit)×Unit)) :
  br (x.2 != 0) (qg (qcy (DD X n) x.1 r) fun b=>br (!Prod.fst (Prod.fst b)) F A) A=A:=by
 by_cases h:x.2=0
 ·rw[qhz,decide_eq_true h,Bool.not_true,br_f]
 ·rw[qhz,decide_eq_false h,Bool.not_false,br_t,hx.refused h,qrh hX.ok (by omega) r hr,qf,Bool.not_true,br_f]
theorem qbre {X:Ext} (hX:XC X) {n:Nat} (hn:W+10≤n) {r m p:Rel} {x y z:Rel×Int} (hx:Left r x) (hy:Left m y) (hz:Left p z) :
  qkt (DD X n) n x.2 y.2 z.2 x.1 y.1 z.1=some ((true,()),()):=by
 simp only[qkt,qwj,q4z]
 rw[qbf3 hX hn hx,qbf3 hX hn hy,qbnz hX hn hz]
theorem qbrg {X:Ext} (hX:XC X) {n:Nat} (hn:W+10≤n) {r m p:Rel} (hr:RelSm r) (hm:RelSm m) (hp:RelSm p) {x y z:Rel×Int} (hx:Left r x) (hy:Left m y) (hz:Left p z) :
  qkj (DD X n) n x.2 y.2 z.2 r x.1 m y.1 p z.1=some ((true,()),()):=by
 simp only[qkj,qo9,q4z]
 rw[q8g hX hn hr hx,q8g hX hn hm hy,q8g hX hn hp hz,qbre hX hn hx hy hz]
theorem qbmj {r:Rel} (hr:RelSm r) (key:Row):(lookup r key).1.length≤M:=by
 unfold lookup
 split
 ·split
  ·rename_i j _ _
   by_cases h:j<r.2.1.length
   ·exact hr.row _ (qbk h)
   ·show (r.2.1.getD j []).length≤M
    rw[List.getD_eq_getElem?_getD,List.getElem?_eq_none (by omega)];exact Nat.zero_le _
  ·exact Nat.zero_le _
 ·exact Nat.zero_le _
theorem qbfn (a:List Int):qy0 (DD qqt (W+16)) a=some ((true,()),()):=by
 have hI:=qbqe
 have hC:=hI.toXC
 have hX:=hC.ok
 have hd:=qcw
 have hW:=qcb
 have hM:=qbl
 rw[q8c hX]
 simp only[qq9,qq7]
 rw[qbt1 hX (by omega),qf];dsimp only
 by_cases h:(a.length:Int)>1048576
 ·rw[decide_eq_true h,br_t]
 ·rw[decide_eq_false h,br_f]
  obtain ⟨r,row,hr,hl1,e1⟩:=qbln hX (n:=W+15) (by omega) a (by omega)
  obtain ⟨m,key,hm,e2⟩:=qbk6 hX (n:=W+15) (by omega) a (by omega)
  obtain ⟨p,rep,hp,hl2,e3⟩:=qbi5 hX (n:=W+15) (by omega) a (by omega)
  obtain ⟨l,lk,hl,e4⟩:=qbkp hX (n:=W+15) (by omega) a (by omega)
  obtain ⟨o,ho,e5⟩:=qbmx hX (n:=W+15) (by omega) a (by omega)
  obtain ⟨s,hs,e6⟩:=qblp hX (n:=W+15) (by omega) a (by omega)
  have f1:=qbkh hI (n:=W+15) (by omega) r hr.sm row (by omega)
  have f2:=q9a hX (n:=W+15) (by omega) r hr.sm row (by omega)
  have f3:=qbj4 hI (n:=W+15) (by omega) m hm.sm key
  have f4:=q9l hX (n:=W+15) (by omega) m hm.sm key
  have f5:=qbjj hC (n:=W+15) (by omega) p hp.sm rep (by omega)
  have f6:=q65 hX (n:=W+15) (by omega) p hp.sm rep (by omega)
  have f7:=qbkv hC (n:=W+15) (by omega) l hl.sm lk
  have f8:=qbkk hX (n:=W+15) (by omega) l hl.sm lk
  have f9:=qbkn hC (n:=W+15) (by omega) s hs
  have f10:=q81 hX (n:=W+15) (by omega) s hs
  have g1:=qil hC (n:=W+15) (by omega) o ho.sm
  have g2:=qo0 hX (n:=W+15) (by omega) o ho.sm
  have i1:=qbm0 hr.sm (row:=row) (by omega)
  have i2:=qbmz hm.sm key
  have i3:=qbld hp.sm (row:=rep) (by omega)
  obtain ⟨n1,n2⟩:=qbms hs
  generalize qc9 r row=x at *
  generalize qj7 m key=y at *
  generalize qh6 p rep=z at *
  rw[e1,qf];dsimp only
  rw[f1,qf];dsimp only
  rw[f2,qf];dsimp only
  rw[e2,qf];dsimp only
  rw[f3,qf];dsimp only
  rw[f4,qf];dsimp only
  rw[e3,qf];dsimp only
  rw[f5,qf];dsimp only
  rw[f6,qf];dsimp only
  rw[e4,qf];dsimp only
  rw[f7,qf];dsimp only
  rw[f8,qf];dsimp only
  rw[e5,qf];dsimp only
  rw[e6,qf];dsimp only
  rw[f9,qf];dsimp only
  rw[f10,qf];dsimp only
  simp only[q4z,qtp]
  rw[bne_self_eq_false,br_f,qrh hX (by omega) x.1 i1.sm,qf]
  simp only[Bool.not_true,cond_false,bne_self_eq_false,br_f]
  rw[qrh hX (by omega) y.1 i2.sm,qf]
  simp only[Bool.not_true,cond_false,bne_self_eq_false,br_f]
  rw[qrh hX (by omega) z.1 i3.sm,qf]
  simp only[Bool.not_true,cond_false,decide_true,br_f]
  rw[qbca hX (by omega) _ _ (qbmj hl.sm lk),qf]
  simp only[Bool.not_true,decide_true,br_f]
  rw[g1,qf];dsimp only
  rw[g2,qf]
  simp only[Bool.not_true,cond_false,decide_true,br_f]
  have fin:=qbrg hC (n:=W+15) (by omega) hr.sm hm.sm hp.sm i1 i2 i3
  cases hq:(qke s).2
  ·rw[br_f];exact fin
  ·rw[br_t,qil hC (by omega) _ n1,n2 hq,qf]
   simp only[Bool.not_true,br_f]
   exact fin
end Go.G
namespace Go.Proofs.YtfafjngknkbngaaGreat
open Go.ChangeShapes Go.WideShapes Go.ChangeAt Go.RowKit Go.V Go.G
set_option maxRecDepth 100000
theorem fnRelations_lifted (os:Os) (started:os.Started) (H:Type) (enc:TypeId×Value→H) :
  ReturnsInHanded {} Tryz.checked os 5 .any (Rows.fnRelationsSpec.pre6 enc Tryz.prog Tryz.f5 Rows.fnRelationsRow.domain false) (Rows.fnRelationsSpec.post enc Tryz.prog Tryz.f5 false true false false):=
 qbp0 (X:=qqt) (tb:=4) started Tryz.func5 (by kernel_rfl)
  (ChangeSpec.witness6 (enc:=enc) (C:=Tryz.checked) false ⟨#[],Tryz.f5.params.map fun t=>((Tryz.prog.info? t).bind (·.zero)).getD .nilIface,[]⟩ 8 (by kernel_rfl) (by kernel_rfl) (by kernel_rfl) (by kernel_rfl))
  ⟨rfl,rfl,trivial⟩ (by kernel_rfl) (by kernel_rfl) (by kernel_rfl) rfl
  (fun ds h=>by
   match ds,h with
   | [d0],_=>exact ⟨rfl,rfl,rfl⟩)
  (fun a wa=>⟨W+16,((true,()),()),qbfn a.1,fun h Pr Gs us k=>by
   obtain ⟨v,vs,rfl,⟨c,r,rfl⟩,e⟩:=k
   obtain rfl:vs=[]:=e
   simp only[Rep] at r
   subst r
   rfl⟩)
theorem fnRelations_holds:Rows.FnRelationsSaid:=
 OpenClaim.holds_of_wide 5 Tryz.f5 rfl rfl rfl rfl rfl rfl rfl ⟨rfl,rfl,rfl,rfl,rfl⟩ rfl rfl rfl rfl rfl (by kernel_rfl) Tryz.func5 (by kernel_rfl)
  (of_decide_eq_true (by kernel_rfl)) (by unfold Func.isWrapper;first | (rw[if_pos (by decide +kernel)];kernel_rfl) | (rw[if_neg (by decide +kernel)];exact ⟨rfl,rfl⟩))
  (fun os started H enc _=>fnRelations_lifted os started H enc)
#print axioms fnRelations_holds
end Go.Proofs.YtfafjngknkbngaaGreat


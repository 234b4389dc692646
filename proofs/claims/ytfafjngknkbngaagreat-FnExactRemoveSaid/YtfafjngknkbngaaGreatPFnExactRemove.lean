/- The row FnExactRemove holds: for all arguments the law returns true and the arguments read as before. No condition. -/
import Derived.Lib.AppendZerosOnto
import Derived.Laws.Externs
import Derived.Lib.Overlaps
import Derived.Test.YtfafjngknkbngaaGreatAPFnExactRemove2
set_option linter.unusedVariables false
set_option linter.unusedSimpArgs false
set_option linter.unusedSectionVars false
namespace Go.V
set_option maxRecDepth 100000
open Go Go.Proofs Go.RowKit
abbrev TWay:Ty:=.pair .str (.pair .str .unit)
abbrev SigW:Sig:=⟨[.own (.sl TWay) (Mk.top (.sl TWay)),.val (.int .i64),.own (.sl TWay) (Mk.top (.sl TWay))],[.val (.sl TWay) (Mk.top (.sl TWay))]⟩
theorem sigW:ctx.sig 93=SigW:=by kernel_rfl
def insW (xs:List TWay.den) (i:Int) (ys:List TWay.den):Option (List TWay.den):=if 0≤i∧i≤xs.length∧0<ys.length∧xs.length+ys.length≤qbk then some (xs.take i.toNat++ys++xs.drop i.toNat) else none
theorem qu2 {P:Program} (w:World) (dT sT ty elem:TypeId) {i:TypeInfo} (b o dLen dCap:Nat) (a:Addr) (sLen sCap:Nat) (cs:List Value)
  (hu:P.underlying dT=some (.slice elem)) (hi:P.info? elem=some i) (hn:Nat.min sLen dLen * i.size=cs.length)
  (hsrc:∀ j v,cs[j]? = some v→w.cell? (a.add j)=some v) (hc:∀ j,j<cs.length→(w.cell? ⟨b,o+j,none⟩).isSome=true) (hf:∀ j,j<cs.length→w.frozen? ⟨b,o+j,none⟩=false) (h1:∀ v∈cs,v.oneCell'=true) :
  (Builtin.copy_ #[dT,sT] ty #[.slice (some ⟨b,o,none⟩) dLen dCap,.slice (some a) sLen sCap]).run P w=.ok (goInt (Nat.min sLen dLen)) (w.setCells b o cs):=by
 have hl:=run_loadCells_list (P:=P) w a cs hsrc
 have hst:=run_storeCells_cells (P:=P) b o cs 0 w (by simpa using hc) (by simpa using hf) h1
 simp[Builtin.copy_,run_underlying hu,Builtin.lenOf,Builtin.firstCells,sizeOf,typeInfo,hi,hn,hl,hst]
theorem El.all {h:Array Obj} {Pr:BS} {e:Ty} {mi:Mk} {xs:List e.den} {cells:List Value} {F:Nat→BS} (el:El h Pr e mi xs cells F) (hw:0<e.width) (hl:cells.length=xs.length * e.width):∀ u∈cells,u.oneCell'=true:=by
 intro u hu
 obtain ⟨k,hk,rfl⟩:=List.getElem_of_mem hu
 have hk2:k / e.width<xs.length:=by rw[Nat.div_lt_iff_lt_mul hw];omega
 have r:=el.rep (k / e.width) hk2
 refine Rep.one _ r _ ?_
 rw[List.mem_iff_getElem?]
 refine ⟨k % e.width,?_⟩
 have e1:k / e.width * e.width+k % e.width=k:=by rw[Nat.mul_comm];exact Nat.div_add_mod k e.width
 rw[List.getElem?_take,if_pos (Nat.mod_lt _ hw),List.getElem?_drop,e1,List.getElem?_eq_getElem]
theorem qbxq:qbkd Tryz.prog SigW 93 fun a=>(insW a.1 a.2.1 a.2.2.1).map fun r=>((r,()),()):=by
 intro a r h w Pr Fs vs pre
 obtain ⟨xs,i,ys,⟨⟩⟩:=a
 change List TWay.den at xs
 change Int at i
 change List TWay.den at ys
 obtain ⟨v1,vs1,rfl,⟨c1,rep1,rfl⟩,v2,vs2,rfl,⟨c2,r2,rfl⟩,v3,vs3,rfl,⟨c3,rep3,rfl⟩,k3⟩:=pre.rel
 obtain rfl:vs3=[]:=k3
 simp only[Rep] at r2
 subst r2
 dsimp only at h
 unfold insW at h
 split at h
 ·rename_i hc
  obtain ⟨h0,hi,hm,hbd⟩:=hc
  replace h0:0≤i:=h0
  replace hi:i≤xs.length:=hi
  replace hm:0<ys.length:=hm
  replace hbd:xs.length+ys.length≤274877906944:=hbd
  simp only[Option.map_some,Option.some.injEq] at h
  subst h
  obtain ⟨i,rfl⟩:=Int.eq_ofNat_of_zero_le h0
  have hi2:i≤xs.length:=by omega
  obtain ⟨ad1,cap1,cells1,F1,rfl,hl1,hlc1,hsrc1,el1,hF1,hown1⟩:=qlt (by simp[Mk.top]) (by simp[Mk.top]) rep1
  obtain ⟨ad2,cap2,cells2,F2,rfl,hl2,hlc2,hsrc2,el2,hF2,hown2⟩:=qlt (by simp[Mk.top]) (by simp[Mk.top]) rep3
  have hw1:TWay.width=2:=rfl
  replace hlc1:xs.length≤cap1:=hlc1
  replace hlc2:ys.length≤cap2:=hlc2
  have hl1':cells1.length=xs.length * 2:=by rw[hl1,hw1]
  have hl2':cells2.length=ys.length * 2:=by rw[hl2,hw1]
  rcases hown2 0 _ rfl with hc0 | ⟨b2,cs2,rfl,hbF2,hbo2,hcapb2,hFb2,hcells2⟩
  ·exact absurd hc0 (by omega)
  replace hcapb2:cap2 * 2≤cs2.size:=by rw[hw1] at hcapb2;exact hcapb2
  replace hcells2:cells2=sub cs2 0 (ys.length * 2):=by rw[hcells2,hw1]
  have hd12:∀ p q,Dis (F1 p) (F2 q):=fun p q=>(pre.dis 0 2 (by decide)).mono (hF1 p) (hF2 q)
  obtain ⟨FF,elz,hFF⟩:=El.insert el1 el2 i hi2 (by rw[hl1]) (by rw[hl2]) hd12
  rw[hw1] at elz
  have hFs:∀ t b,FF t b→∃ k,Fs k b:=fun t b hb=>by
   rcases hFF t b hb with ⟨c,hc⟩ | ⟨c,hc⟩
   ·exact ⟨0,hF1 c b hc⟩
   ·exact ⟨2,hF2 c b hc⟩
  have hlz:(xs.take i++ys++xs.drop i).length=xs.length+ys.length:=by simp only[List.length_append,List.length_take,List.length_drop];omega
  have hone1:=el1.all (by decide) hl1
  have hone2:=el2.all (by decide) hl2
  have uT:Tryz.prog.underlying 35=some (.slice 42):=by kernel_rfl
  have u3:Tryz.prog.underlying 3=some (.int .i64):=by kernel_rfl
  obtain ⟨i0,z0,hi0,hs0,hz0,hzs,hb0⟩:∃ i0 z0,Tryz.prog.info? 42=some i0∧i0.size=2∧i0.zero=some z0∧z0.cells.size=2∧i0.bytes=32:=by
   have k:((Tryz.prog.info? 42).map fun x=>(x.size,x.zero.map (·.cells.size),x.bytes))=some (2,some 2,32):=by kernel_rfl
   cases h:Tryz.prog.info? 42 with
   | none=>rw[h] at k;cases k
   | some x=>
    rw[h] at k
    simp only[Option.map_some,Option.some.injEq,Prod.mk.injEq] at k
    cases hz:x.zero with
    | none=>rw[hz] at k;cases k.2.1
    | some z=>
     rw[hz] at k
     simp only[Option.map_some,Option.some.injEq] at k
     exact ⟨x,z,rfl,k.1,hz,k.2.1,k.2.2⟩
  have hn2:(Builtin.firstCells i0.size ys.length (.slice (some ⟨b2,0,none⟩) ys.length cap2)).run Tryz.prog w=.ok cells2.toArray w:=by
   rw[hs0]
   exact qfu hl2' (.inr ⟨b2,0,rfl,by rw[hcells2];exact qbt hbo2.blk (by omega)⟩)
  have ht0:cells1.take (xs.length * 2)=cells1:=List.take_of_length_le (by omega)
  have hd0:cells1.drop (xs.length * 2)=[]:=List.drop_eq_nil_of_le (by omega)
  have houts:∀ (h:Array Obj) (v1 v2 v3:Value),qex h Pr (fun _=>Nil) 0 SigW.params () [v1,v2,v3]:=fun h v1 v2 v3=>⟨_,_,rfl,_,_,rfl,_,_,rfl,rfl⟩
  by_cases hend:i=xs.length
  ·subst hend
   rw[ht0,hd0,List.append_nil] at elz
   by_cases hroom:xs.length+ys.length≤cap1
   ·rcases hown1 0 _ rfl with hc0 | ⟨b1,cs1,rfl,hbF1,hbo1,hcapb1,hFb1,hcells1⟩
    ·exact absurd hc0 (by omega)
    replace hcapb1:cap1 * 2≤cs1.size:=by rw[hw1] at hcapb1;exact hcapb1
    replace hcells1:cells1=sub cs1 0 (xs.length * 2):=by rw[hcells1,hw1]
    have hfit:xs.length * 2+cells2.length≤cs1.size:=by omega
    have hr:∀ ty,(Builtin.append_ #[35,35] ty #[.slice (some ⟨b1,0,none⟩) xs.length cap1,.slice (some ⟨b2,0,none⟩) ys.length cap2]).run Tryz.prog w=.ok (.slice (some ⟨b1,0,none⟩) (xs.length+ys.length) cap1) (w.setCells b1 (xs.length * 2) cells2):=fun ty=>
     qkp (P:=Tryz.prog) w (ty:=ty) rfl rfl uT uT hi0 hn2 hroom (fun ad e=>by
      simp only[Option.some.injEq] at e
      subst e
      rw[Addr.add_mid,Nat.zero_add,hs0]
      have th:=qd3 (w:=w) (o:=xs.length * 2) (n:=cells2.length) hbo1 hfit
      have:=run_storeCells_cells (P:=Tryz.prog) b1 (xs.length * 2) cells2 0 w (fun t ht=>by simpa using (th t ht).1) (fun t ht=>by simpa using (th t ht).2) hone2
      simpa using this) (fun e=>by simp at e)
    obtain ⟨ty,lo,hi',he,hfz⟩:=hbo1
    obtain ⟨cs3,hcs3,hcs3l⟩:=qc6 cells2 (xs.length * 2) w cs1 he hfit
    have hsz3:cs3.size=cs1.size:=by rw[←Array.length_toList,hcs3l,qcf (by simpa using hfit),Array.length_toList]
    have hob3:qbg (w.setCells b1 (xs.length * 2) cells2).heap b1 cs3:=⟨ty,lo,hi',hcs3,fun t ht=>hfz t (by omega)⟩
    have h7:cs1.toList.length=cs1.size:=Array.length_toList
    have htake:cs3.toList.take ((xs.take xs.length++ys++xs.drop xs.length).length * TWay.width)=cells1++cells2:=by
     rw[hw1,hlz,hcs3l,hcells1]
     simp only[repl,sub,List.drop_zero]
     rw[List.take_append_of_le_length (by rw[List.length_append,List.length_take,hl2'];omega),List.take_of_length_le (by rw[List.length_append,List.length_take,hl2'];omega)]
    have hrest:=qce (b:=b1) cells2 (xs.length * 2) w
    have hFBb:∀ t,¬ FF t b1:=fun t hb=>by
     rcases hFF t b1 hb with ⟨c,hc⟩ | ⟨c,hc⟩
     ·exact hFb1 c hc
     ·exact pre.dis 0 2 (by decide) b1 hbF1 (hF2 c b1 hc)
    refine (qbof (some ⟨b1,0,none⟩) xs.length cap1 ys.length (some ⟨b2,0,none⟩) cap2 w _ _ hm hlc1 (.inl ⟨b1,rfl⟩) hr).mono ?_
    rintro e w' ⟨rfl,rfl⟩
    obtain ⟨val,Pr',Gs,Os,us,hv,hp⟩:=qwt pre elz hFs hob3 (cap:=cap1) (by rw[hw1];omega) (by rw[hlz];exact hroom) htake (.inr ⟨0,hbF1⟩) hFBb (fun b' _ hb'=>qbh cells2 _ w b' hb') (by rw[qba];exact Nat.le_refl _) (by rw[qba];exact pre.lim 0 b1 hbF1) hrest.1 hrest.2.1 hrest.2.2 () (houts _ _ _ _)
    exact ⟨val,Pr',Gs,Os,us,by rw[←hv,hlz],hp⟩
   ·have hg:cap1<xs.length+ys.length:=by omega
    have hn2d:(Builtin.firstCells i0.size ys.length (.slice (some ⟨b2,0,none⟩) ys.length cap2)).run Tryz.prog w.drew=.ok cells2.toArray w.drew:=by
     rw[hs0]
     exact qfu hl2' (.inr ⟨b2,0,rfl,qc3 (by rw[hcells2];exact qbt hbo2.blk (by omega))⟩)
    have hn1d:(Builtin.firstCells i0.size xs.length (.slice ad1 xs.length cap1)).run Tryz.prog w.drew=.ok cells1.toArray w.drew:=by
     rw[hs0]
     refine qfu hl1' ?_
     rcases hsrc1 with ⟨h1,h2⟩ | ⟨b,o,cs,h1,h2,h3,h4⟩
     ·exact .inl ⟨h1,h2⟩
     ·exact .inr ⟨b,o,h1,qc3 (h4 ▸ qbt h2 h3)⟩
    have hfit:Builtin.nextslicecap (xs.length+ys.length) cap1 * i0.bytes≤281474976710656:=by
     have:=Room.nextslicecap_le' (need:=xs.length+ys.length) (old:=cap1) hg
     rw[hb0];omega
    have hr:=fun ty=>qys (P:=Tryz.prog) w (ats:=#[35,35]) (ty:=ty) rfl rfl uT uT hi0 hz0 hn2d hn1d hg (by omega) hfit
    have hge:=grownCap_ge w (xs.length+ys.length) cap1 42
    generalize grownCap w (xs.length+ys.length) cap1 42=cap' at hr hge
    have hcss:(cells1.toArray++cells2.toArray++Builtin.zeroCells z0.cells (cap' - (xs.length+ys.length))).size=cap' * 2:=by
     simp only[Array.size_append,List.size_toArray,size_zeroCells,hzs,hl1',hl2'];omega
    have htk:(cells1.toArray++cells2.toArray++Builtin.zeroCells z0.cells (cap' - (xs.length+ys.length))).toList.take ((xs.length+ys.length) * 2)=cells1++cells2:=by
     simp only[Array.toList_append,List.append_assoc]
     rw[←List.append_assoc,List.take_append_of_le_length (by rw[List.length_append];omega),List.take_of_length_le (by rw[List.length_append];omega)]
    generalize cells1.toArray++cells2.toArray++Builtin.zeroCells z0.cells (cap' - (xs.length+ys.length))=cs at hr hcss htk
    have h1a:(∃ b,ad1=some ⟨b,0,none⟩)∨(xs.length=0∧cap1=0):=by
     rcases hown1 0 _ rfl with hc0 | ⟨b1,cs1,rfl,_⟩
     ·exact .inr ⟨by omega,hc0⟩
     ·exact .inl ⟨b1,rfl⟩
    refine (qbof ad1 xs.length cap1 ys.length (some ⟨b2,0,none⟩) cap2 w _ _ hm hlc1 h1a hr).mono ?_
    rintro e w' ⟨rfl,rfl⟩
    obtain ⟨val,Pr',Gs,Os,us,hv,hp⟩:=qwt (w2:=w.drew.alloc (.cells cs 42)) pre elz hFs (B:=w.heap.size) (cs:=cs) qbg.new (cap:=cap') (by rw[hw1,hcss];exact Nat.le_refl _) (by rw[hlz];exact hge) (by rw[hw1,hlz];exact htk) (.inl rfl)
     (fun t hb=>by obtain ⟨k,hk⟩:=hFs t _ hb;exact Nat.lt_irrefl _ (pre.lim k _ hk)) (fun b' hb1 _=>qgp b' hb1) (by show w.heap.size≤(w.heap.push _).size;simp) (by show w.heap.size<(w.heap.push _).size;simp) rfl rfl rfl () (houts _ _ _ _)
    exact ⟨val,Pr',Gs,Os,us,by rw[←hv,hlz],hp⟩
  ·have hlt:i<xs.length:=by omega
   rcases hown1 0 _ rfl with hc0 | ⟨b1,cs1,rfl,hbF1,hbo1,hcapb1,hFb1,hcells1⟩
   ·exact absurd hc0 (by omega)
   replace hcapb1:cap1 * 2≤cs1.size:=by rw[hw1] at hcapb1;exact hcapb1
   replace hcells1:cells1=sub cs1 0 (xs.length * 2):=by rw[hcells1,hw1]
   have hb12:b2≠b1:=fun e=>pre.dis 0 2 (by decide) b1 hbF1 (e ▸ hbF2)
   have hcd:cells1.drop (i * 2)=sub cs1 (i * 2) ((xs.length - i) * 2):=by
    rw[hcells1]
    simp only[sub,List.drop_zero,List.drop_take]
    congr 1;omega
   have hct:cells1.take (i * 2)=cs1.toList.take (i * 2):=by
    rw[hcells1]
    simp only[sub,List.drop_zero,List.take_take]
    congr 1;omega
   have hdl:(cells1.drop (i * 2)).length=(xs.length - i) * 2:=by rw[List.length_drop,hl1'];omega
   have honed:∀ u∈cells1.drop (i * 2),u.oneCell'=true:=fun u hu=>hone1 u (List.mem_of_mem_drop hu)
   have hFBb:∀ t,¬ FF t b1:=fun t hb=>by
    rcases hFF t b1 hb with ⟨c,hc⟩ | ⟨c,hc⟩
    ·exact hFb1 c hc
    ·exact pre.dis 0 2 (by decide) b1 hbF1 (hF2 c b1 hc)
   by_cases hroom:xs.length+ys.length≤cap1
   ·have hov:∀ lb cb,(callFunc 156 #[.slice (some ⟨b2,0,none⟩) ys.length cap2,.slice (some ⟨b1,(i+ys.length) * 2,none⟩) lb cb]).run Tryz.prog w=.ok (.value (.bool false)) w:=by
     intro lb cb
     obtain ⟨e2,lo2,hi2,he2,hf2⟩:=hbo2
     obtain ⟨e1,lo1,hi1,he1,hf1⟩:=hbo1
     have hnf:∀ k,k≤cs2.size→w.frozen? ⟨b2,k,none⟩=false:=fun k hk=>by
      have:=hf2 k hk
      simp only[World.frozen?,he2]
      simpa using this
     rw[run_callFunc_extern (P:=Tryz.prog) (f:=156) (fn:=Tryz.f156) Tryz.func156 (by kernel_rfl) (by kernel_rfl) (by kernel_rfl) (e:=Extern.SlicesOverlaps.overlaps #[35,35] #[4]) (by kernel_rfl),
      Lib.run_overlaps_apart w 35 4 42 uT 2 (fun w=>by simp[sizeOf,typeInfo,hi0,hs0]) ⟨b2,0,none⟩ ⟨b1,(i+ys.length) * 2,none⟩ ys.length cap2 lb cb hb12 e2 e1 cs2.size cs1.size (by simp[World.shape?,he2]) (by simp[World.shape?,he1]) (by omega) (hnf 0 (by omega)) (hnf _ (Nat.le_refl _))]
     rfl
    have hfitA:(i+ys.length) * 2+(cells1.drop (i * 2)).length≤cs1.size:=by rw[hdl];omega
    have thA:=qd3 (w:=w) (o:=(i+ys.length) * 2) (n:=(cells1.drop (i * 2)).length) hbo1 hfitA
    have hB:∀ ty dc sc,(Builtin.copy_ #[35,35] ty #[.slice (some ⟨b1,(i+ys.length) * 2,none⟩) (xs.length+ys.length - (i+ys.length)) dc,.slice (some ⟨b1,i * 2,none⟩) (xs.length+ys.length - i) sc]).run Tryz.prog w.drew=.ok (goInt (Nat.min (xs.length+ys.length - i) (xs.length+ys.length - (i+ys.length)))) (w.drew.setCells b1 ((i+ys.length) * 2) (cells1.drop (i * 2))):=fun ty dc sc=>
     qu2 w.drew 35 35 ty 42 b1 ((i+ys.length) * 2) _ dc ⟨b1,i * 2,none⟩ _ sc (cells1.drop (i * 2)) uT hi0 (by rw[hdl,hs0];simp only[Nat.min_def];split<;>omega)
      (fun k v hk=>by rw[Addr.add_mid];exact qc3 (w:=w) (b:=b1) (o:=i * 2) (cs:=cells1.drop (i * 2)) (by rw[hcd];exact qbt hbo1.blk (by omega)) k v hk) (fun k hk=>(thA k hk).1) (fun k hk=>(thA k hk).2) honed
    obtain ⟨ty,lo,hi',he,hfz⟩:=hbo1
    obtain ⟨cs3,hcs3,hcs3l⟩:=qc6 (cells1.drop (i * 2)) ((i+ys.length) * 2) w.drew cs1 he hfitA
    have hsz3:cs3.size=cs1.size:=by rw[←Array.length_toList,hcs3l,qcf (by simpa using hfitA),Array.length_toList]
    have hob3:qbg (w.drew.setCells b1 ((i+ys.length) * 2) (cells1.drop (i * 2))).heap b1 cs3:=⟨ty,lo,hi',hcs3,fun t ht=>hfz t (by omega)⟩
    have hfitB:i * 2+cells2.length≤cs3.size:=by omega
    have thB:=qd3 (w:=w.drew.setCells b1 ((i+ys.length) * 2) (cells1.drop (i * 2))) (o:=i * 2) (n:=cells2.length) hob3 hfitB
    have hr2:(w.drew.setCells b1 ((i+ys.length) * 2) (cells1.drop (i * 2))).rangeAt b2 0 cells2:=by
     rw[hcells2]
     exact qbt (Blk.congr hbo2.blk (qbh (cells1.drop (i * 2)) _ w.drew b2 hb12)) (by omega)
    have hC:∀ ty dc,(Builtin.copy_ #[35,35] ty #[.slice (some ⟨b1,i * 2,none⟩) (xs.length+ys.length - i) dc,.slice (some ⟨b2,0,none⟩) ys.length cap2]).run Tryz.prog (w.drew.setCells b1 ((i+ys.length) * 2) (cells1.drop (i * 2)))=.ok (goInt (Nat.min ys.length (xs.length+ys.length - i))) ((w.drew.setCells b1 ((i+ys.length) * 2) (cells1.drop (i * 2))).setCells b1 (i * 2) cells2):=fun ty dc=>
     qu2 _ 35 35 ty 42 b1 (i * 2) _ dc ⟨b2,0,none⟩ _ cap2 cells2 uT hi0 (by rw[hl2',hs0];simp only[Nat.min_def];split<;>omega)
      (fun k v hk=>by rw[Addr.add_mid];exact hr2 k v hk) (fun k hk=>(thB k hk).1) (fun k hk=>(thB k hk).2) hone2
    obtain ⟨cs4,hcs4,hcs4l⟩:=qc6 cells2 (i * 2) _ cs3 hcs3 hfitB
    have hsz4:cs4.size=cs3.size:=by rw[←Array.length_toList,hcs4l,qcf (by simpa using hfitB),Array.length_toList]
    have hob4:qbg ((w.drew.setCells b1 ((i+ys.length) * 2) (cells1.drop (i * 2))).setCells b1 (i * 2) cells2).heap b1 cs4:=⟨ty,lo,hi',hcs4,fun t ht=>hfz t (by omega)⟩
    have h7:cs1.toList.length=cs1.size:=Array.length_toList
    have htake:cs4.toList.take ((xs.take i++ys++xs.drop i).length * TWay.width)=cells1.take (i * 2)++cells2++cells1.drop (i * 2):=by
     have e:=qbwa (l:=cs1.toList) (D:=cells1.drop (i * 2)) (C:=cells2) (i:=i * 2) (m:=ys.length * 2) hl2' (by rw[h7,←Nat.add_mul];exact hfitA)
     rw[hw1,hlz,hcs4l,hcs3l,hct,Nat.add_mul i]
     rw[show (xs.length+ys.length) * 2=i * 2+ys.length * 2+(cells1.drop (i * 2)).length by rw[hdl];omega]
     exact e
    have hrest1:=qce (b:=b1) (cells1.drop (i * 2)) ((i+ys.length) * 2) w.drew
    have hrest2:=qce (b:=b1) cells2 (i * 2) (w.drew.setCells b1 ((i+ys.length) * 2) (cells1.drop (i * 2)))
    have hsize:((w.drew.setCells b1 ((i+ys.length) * 2) (cells1.drop (i * 2))).setCells b1 (i * 2) cells2).heap.size=w.heap.size:=by rw[qba,qba];rfl
    refine (qbsj b1 xs.length cap1 i ys.length ⟨b2,0,none⟩ cap2 w _ _ _ _ hlt hm hroom (by omega) hov hB hC).mono ?_
    rintro e w' ⟨rfl,rfl⟩
    obtain ⟨val,Pr',Gs,Os,us,hv,hp⟩:=qwt pre elz hFs hob4 (cap:=cap1) (by rw[hw1];omega) (by rw[hlz];exact hroom) htake (.inr ⟨0,hbF1⟩) hFBb
     (fun b' _ hb'=>(qbh cells2 _ _ b' hb').trans (qbh (cells1.drop (i * 2)) _ w.drew b' hb')) (by rw[hsize];exact Nat.le_refl _) (by rw[hsize];exact pre.lim 0 b1 hbF1) (hrest2.1.trans hrest1.1) (hrest2.2.1.trans hrest1.2.1) (hrest2.2.2.trans hrest1.2.2) () (houts _ _ _ _)
    exact ⟨val,Pr',Gs,Os,us,by rw[←hv,hlz],hp⟩
   ·have hg:cap1<xs.length+ys.length:=by omega
    obtain ⟨K,hK⟩:∃ K,K=xs.length+ys.length - i:=⟨_,rfl⟩
    have hKi:i+K=xs.length+ys.length:=by omega
    have hn1d:(Builtin.firstCells i0.size i (.slice (some ⟨b1,0,none⟩) i cap1)).run Tryz.prog w.drew=.ok (cells1.take (i * 2)).toArray w.drew:=by
     rw[hs0]
     refine qfu (by rw[List.length_take,hl1'];omega) (.inr ⟨b1,0,rfl,qc3 ?_⟩)
     have e:cells1.take (i * 2)=sub cs1 0 (i * 2):=by rw[hct];simp only[sub,List.drop_zero]
     rw[e];exact qbt hbo1.blk (by omega)
    have hfit:Builtin.nextslicecap (i+K) cap1 * i0.bytes≤281474976710656:=by
     have:=Room.nextslicecap_le' (need:=i+K) (old:=cap1) (by omega)
     rw[hb0];omega
    have hr:=fun ty=>Lib.run_append_grow_zeros (P:=Tryz.prog) w 35 3 ty 42 i0 _ .i64 .i64 uT u3 hi0 hz0 (some ⟨b1,0,none⟩) i cap1 (cells1.take (i * 2)) hn1d K (by omega) (by omega) (by omega) (by omega) (by rw[hb0];omega) hfit
    have hge:=grownCap_ge w (i+K) cap1 42
    generalize grownCap w (i+K) cap1 42=cap' at hr hge
    have hcss:((cells1.take (i * 2)).toArray++Builtin.zeroCells z0.cells K++Builtin.zeroCells z0.cells (cap' - (i+K))).size=cap' * 2:=by
     simp only[Array.size_append,List.size_toArray,size_zeroCells,hzs,List.length_take,hl1'];omega
    have htk:((cells1.take (i * 2)).toArray++Builtin.zeroCells z0.cells K++Builtin.zeroCells z0.cells (cap' - (i+K))).toList.take (i * 2)=cells1.take (i * 2):=by
     simp only[Array.toList_append,List.append_assoc]
     rw[List.take_append_of_le_length (by rw[List.length_take,hl1'];omega),List.take_of_length_le (by rw[List.length_take,hl1'];omega)]
    generalize (cells1.take (i * 2)).toArray++Builtin.zeroCells z0.cells K++Builtin.zeroCells z0.cells (cap' - (i+K))=cs0 at hr hcss htk
    rw[hKi] at hr hge
    have hKI:((K:Nat):Int)=(xs.length:Int)+(ys.length:Int) - (i:Int):=by omega
    rw[hKI] at hr
    have hob0:qbg (w.drew.alloc (.cells cs0 42)).heap w.heap.size cs0:=qbg.new
    have hb1lt:=pre.lim 0 b1 hbF1
    have hb2lt:=pre.lim 2 b2 hbF2
    have hb1B:b1≠w.heap.size:=by omega
    have hb2B:b2≠w.heap.size:=by omega
    have hold:∀ b',b'<w.heap.size→(w.drew.alloc (.cells cs0 42)).heap[b']? = w.heap[b']?:=fun b' hb'=>qgp b' hb'
    have hfitA:i * 2+cells2.length≤cs0.size:=by omega
    have thA:=qd3 (w:=w.drew.alloc (.cells cs0 42)) (o:=i * 2) (n:=cells2.length) hob0 hfitA
    have hr2:(w.drew.alloc (.cells cs0 42)).rangeAt b2 0 cells2:=by
     rw[hcells2]
     exact qbt (Blk.congr hbo2.blk (hold b2 hb2lt)) (by omega)
    have hB:∀ ty,(Builtin.copy_ #[35,35] ty #[.slice (some ⟨w.heap.size,i * 2,none⟩) (xs.length+ys.length - i) (cap' - i),.slice (some ⟨b2,0,none⟩) ys.length cap2]).run Tryz.prog (w.drew.alloc (.cells cs0 42))=.ok (goInt (Nat.min ys.length (xs.length+ys.length - i))) ((w.drew.alloc (.cells cs0 42)).setCells w.heap.size (i * 2) cells2):=fun ty=>
     qu2 _ 35 35 ty 42 w.heap.size (i * 2) _ _ ⟨b2,0,none⟩ _ cap2 cells2 uT hi0 (by rw[hl2',hs0];simp only[Nat.min_def];split<;>omega)
      (fun k v hk=>by rw[Addr.add_mid];exact hr2 k v hk) (fun k hk=>(thA k hk).1) (fun k hk=>(thA k hk).2) hone2
    obtain ⟨ty,lo,hi',he,hfz⟩:=hob0
    obtain ⟨cs3,hcs3,hcs3l⟩:=qc6 cells2 (i * 2) (w.drew.alloc (.cells cs0 42)) cs0 he hfitA
    have h7:cs0.toList.length=cs0.size:=Array.length_toList
    have hsz3:cs3.size=cs0.size:=by rw[←Array.length_toList,hcs3l,qcf (by simpa using hfitA),Array.length_toList]
    have hob3:qbg ((w.drew.alloc (.cells cs0 42)).setCells w.heap.size (i * 2) cells2).drew.heap w.heap.size cs3:=⟨ty,lo,hi',hcs3,fun t ht=>hfz t (by omega)⟩
    have hfitB:(i+ys.length) * 2+(cells1.drop (i * 2)).length≤cs3.size:=by rw[hdl];omega
    have thB:=qd3 (w:=((w.drew.alloc (.cells cs0 42)).setCells w.heap.size (i * 2) cells2).drew) (o:=(i+ys.length) * 2) (n:=(cells1.drop (i * 2)).length) hob3 hfitB
    have hr1:((w.drew.alloc (.cells cs0 42)).setCells w.heap.size (i * 2) cells2).drew.rangeAt b1 (i * 2) (cells1.drop (i * 2)):=by
     rw[hcd]
     exact qc3 (qbt (Blk.congr hbo1.blk ((qbh cells2 _ _ b1 hb1B).trans (hold b1 hb1lt))) (by omega))
    have hC:∀ ty,(Builtin.copy_ #[35,35] ty #[.slice (some ⟨w.heap.size,(i+ys.length) * 2,none⟩) (xs.length+ys.length - (i+ys.length)) (cap' - (i+ys.length)),.slice (some ⟨b1,i * 2,none⟩) (xs.length - i) (cap1 - i)]).run Tryz.prog ((w.drew.alloc (.cells cs0 42)).setCells w.heap.size (i * 2) cells2).drew=.ok (goInt (Nat.min (xs.length - i) (xs.length+ys.length - (i+ys.length)))) (((w.drew.alloc (.cells cs0 42)).setCells w.heap.size (i * 2) cells2).drew.setCells w.heap.size ((i+ys.length) * 2) (cells1.drop (i * 2))):=fun ty=>
     qu2 _ 35 35 ty 42 w.heap.size ((i+ys.length) * 2) _ _ ⟨b1,i * 2,none⟩ _ _ (cells1.drop (i * 2)) uT hi0 (by rw[hdl,hs0];simp only[Nat.min_def];split<;>omega)
      (fun k v hk=>by rw[Addr.add_mid];exact hr1 k v hk) (fun k hk=>(thB k hk).1) (fun k hk=>(thB k hk).2) honed
    obtain ⟨cs4,hcs4,hcs4l⟩:=qc6 (cells1.drop (i * 2)) ((i+ys.length) * 2) ((w.drew.alloc (.cells cs0 42)).setCells w.heap.size (i * 2) cells2).drew cs3 hcs3 hfitB
    have hsz4:cs4.size=cs3.size:=by rw[←Array.length_toList,hcs4l,qcf (by simpa using hfitB),Array.length_toList]
    have hob4:qbg (((w.drew.alloc (.cells cs0 42)).setCells w.heap.size (i * 2) cells2).drew.setCells w.heap.size ((i+ys.length) * 2) (cells1.drop (i * 2))).heap w.heap.size cs4:=⟨ty,lo,hi',hcs4,fun t ht=>hfz t (by omega)⟩
    have htake:cs4.toList.take ((xs.take i++ys++xs.drop i).length * TWay.width)=cells1.take (i * 2)++cells2++cells1.drop (i * 2):=by
     have e:=qbwk (l:=cs0.toList) (D:=cells1.drop (i * 2)) (C:=cells2) (i:=i * 2) (m:=ys.length * 2) hl2' (by rw[h7];omega)
     rw[hw1,hlz,hcs4l,hcs3l,←htk,Nat.add_mul i]
     rw[show (xs.length+ys.length) * 2=i * 2+ys.length * 2+(cells1.drop (i * 2)).length by rw[hdl];omega]
     exact e
    have hrest1:=qce (b:=w.heap.size) cells2 (i * 2) (w.drew.alloc (.cells cs0 42))
    have hrest2:=qce (b:=w.heap.size) (cells1.drop (i * 2)) ((i+ys.length) * 2) ((w.drew.alloc (.cells cs0 42)).setCells w.heap.size (i * 2) cells2).drew
    have hsize:(((w.drew.alloc (.cells cs0 42)).setCells w.heap.size (i * 2) cells2).drew.setCells w.heap.size ((i+ys.length) * 2) (cells1.drop (i * 2))).heap.size=w.heap.size+1:=by
     rw[qba]
     show ((w.drew.alloc (.cells cs0 42)).setCells w.heap.size (i * 2) cells2).heap.size=_
     rw[qba];show (w.heap.push _).size=_;simp
    refine (qbt5 b1 xs.length cap1 i ys.length ⟨b2,0,none⟩ cap2 w.heap.size cap' w _ _ _ _ _ hlt hm hlc1 hg hge (by omega) hr hB hC).mono ?_
    rintro e w' ⟨rfl,rfl⟩
    obtain ⟨val,Pr',Gs,Os,us,hv,hp⟩:=qwt pre elz hFs hob4 (cap:=cap') (by rw[hw1];omega) (by rw[hlz];exact hge) htake (.inl rfl)
     (fun t hb=>by obtain ⟨k,hk⟩:=hFs t _ hb;exact Nat.lt_irrefl _ (pre.lim k _ hk))
     (fun b' hb1 hb'=>(qbh (cells1.drop (i * 2)) _ _ b' hb').trans ((qbh cells2 _ _ b' hb').trans (hold b' hb1))) (by rw[hsize];omega) (by rw[hsize];omega) (hrest2.1.trans hrest1.1) (hrest2.2.1.trans hrest1.2.1) (hrest2.2.2.trans hrest1.2.2) () (houts _ _ _ _)
    exact ⟨val,Pr',Gs,Os,us,by rw[←hv,hlz],hp⟩
 ·simp at h
end Go.V

namespace Go.V
set_option maxRecDepth 100000
open Go Go.Proofs Go.RowKit
def insA (a:PDen SigI.params):Option (RDen SigI.res×ODen SigI.params):=(insD a.1 a.2.1 a.2.2.1).map fun r=>((r,()),())
def delA (a:PDen SigD.params):Option (RDen SigD.res×ODen SigD.params):=(delD a.1 a.2.1 a.2.2.1).map fun r=>((r,()),())
def qbi0 (a:PDen SigW.params):Option (RDen SigW.res×ODen SigW.params):=(insW a.1 a.2.1 a.2.2.1).map fun r=>((r,()),())
def cmpA (a:PDen SigC.params):Option (RDen SigC.res×ODen SigC.params):=some ((scmp a.1 a.2.1,()),())
noncomputable def qx1:Den ctx:=fun g a=>
 if h:g=192 then qsz (f:=g) (by rw[h];exact sigC) cmpA a else
 if h:g=88 then qsz (f:=g) (by rw[h];exact sigI) insA a else
 if h:g=95 then qsz (f:=g) (by rw[h];exact sigD) delA a else
 if h:g=93 then qsz (f:=g) (by rw[h];exact sigW) qbi0 a else
 none
theorem qbp0:qx1 192=qsz sigC cmpA:=by
 funext a
 simp only[qx1,dif_pos]
theorem qbp4:qx1 88=qsz sigI insA:=by
 funext a
 simp only[qx1,dif_pos,dif_neg (show ¬ (88:Nat)=192 by decide)]
theorem qboz:qx1 95=qsz sigD delA:=by
 funext a
 simp only[qx1,dif_pos,dif_neg (show ¬ (95:Nat)=192 by decide),dif_neg (show ¬ (95:Nat)=88 by decide)]
theorem qboq:qx1 93=qsz sigW qbi0:=by
 funext a
 simp only[qx1,dif_pos,dif_neg (show ¬ (93:Nat)=192 by decide),dif_neg (show ¬ (93:Nat)=88 by decide),dif_neg (show ¬ (93:Nat)=95 by decide)]
def qbje (f:FuncId):Bool:=f.beq 192||f.beq 88||f.beq 95||f.beq 93
theorem qbpe {f:FuncId} (h:qbje f=true):f=192∨f=88∨f=95∨f=93:=by
 simp only[qbje,Bool.or_eq_true] at h
 rcases h with ((h1 | h2) | h3) | h4
 ·exact .inl (Nat.eq_of_beq_eq_true h1)
 ·exact .inr (.inl (Nat.eq_of_beq_eq_true h2))
 ·exact .inr (.inr (.inl (Nat.eq_of_beq_eq_true h3)))
 ·exact .inr (.inr (.inr (Nat.eq_of_beq_eq_true h4)))
theorem qbyd:qm9 Tryz.prog 88:=⟨Tryz.f88,Tryz.func88,by decide +kernel,rfl⟩
theorem qbyb:qm9 Tryz.prog 95:=⟨Tryz.f95,Tryz.func95,by decide +kernel,rfl⟩
theorem qbx2:qm9 Tryz.prog 93:=⟨Tryz.f93,Tryz.func93,by decide +kernel,rfl⟩
noncomputable def qsl:Ext where
 den:=qx1
 is:=qbje
 ok:=fun f hf=>by
  rcases qbpe hf with rfl | rfl | rfl | rfl
  ·exact qbdn sigC qbp0 qbx6
  ·exact qbdn sigI qbp4 qbx4
  ·exact qbdn sigD qboz qbx8
  ·exact qbdn sigW qboq qbxq
 call:=fun f a r hf _=>by
  rcases qbpe hf with rfl | rfl | rfl | rfl
  ·exact qbow
  ·exact qbyd
  ·exact qbyb
  ·exact qbx2
theorem qbyi (a b:ByteArray):qsz sigC cmpA (a,b,())=cmpA (a,b,()):=by kernel_rfl
theorem qbwp (n:Nat) (a b:ByteArray):DD qsl (n+1) 192 (a,b,())=cmpA (a,b,()):=
 (qbkc qsl (g:=192) rfl n (a,b,())).trans ((congrFun qbp0 (a,b,())).trans (qbyi a b))
theorem qbyq (xs:List TRow.den) (i:Int) (ys:List TRow.den):qsz sigI insA (xs,i,ys,())=insA (xs,i,ys,()):=by kernel_rfl
theorem qbw6 (n:Nat) (xs:List TRow.den) (i:Int) (ys:List TRow.den):DD qsl (n+1) 88 (xs,i,ys,())=insA (xs,i,ys,()):=
 (qbkc qsl (g:=88) rfl n (xs,i,ys,())).trans ((congrFun qbp4 (xs,i,ys,())).trans (qbyq xs i ys))
theorem qbyl (xs:List TRow.den) (i j:Int):qsz sigD delA (xs,i,j,())=delA (xs,i,j,()):=by kernel_rfl
theorem qbww (n:Nat) (xs:List TRow.den) (i j:Int):DD qsl (n+1) 95 (xs,i,j,())=delA (xs,i,j,()):=
 (qbkc qsl (g:=95) rfl n (xs,i,j,())).trans ((congrFun qboz (xs,i,j,())).trans (qbyl xs i j))
theorem qbyj (xs:List TWay.den) (i:Int) (ys:List TWay.den):qsz sigW qbi0 (xs,i,ys,())=qbi0 (xs,i,ys,()):=by kernel_rfl
theorem qbw4 (n:Nat) (xs:List TWay.den) (i:Int) (ys:List TWay.den):DD qsl (n+1) 93 (xs,i,ys,())=qbi0 (xs,i,ys,()):=
 (qbkc qsl (g:=93) rfl n (xs,i,ys,())).trans ((congrFun qboq (xs,i,ys,())).trans (qbyj xs i ys))
theorem qbu5 {k:Nat} (h192:Nat.beq k 192=false) (h88:Nat.beq k 88=false) (h95:Nat.beq k 95=false) (h93:Nat.beq k 93=false):qbje k=false:=by
 simp only[qbje,Bool.or_eq_false_iff]
 exact ⟨⟨⟨h192,h88⟩,h95⟩,h93⟩
end Go.V

namespace Go.G
set_option maxRecDepth 100000
open Go Go.V Go.Proofs
structure XI (X:Ext):Prop extends XC X where
 ins:∀ n xs i ys,qrc (DD X (n+1)) xs i ys=(insD xs i ys).map fun r=>((r,()),())
 del:∀ n xs i j,qiq (DD X (n+1)) xs i j=(delD xs i j).map fun r=>((r,()),())
 way:∀ n xs i ys,qu1 (DD X (n+1)) xs i ys=(insW xs i ys).map fun r=>((r,()),())
theorem qbt9:XI qsl where
 ok:=fun k h=>by
  simp only[Bool.or_eq_false_iff] at h
  obtain ⟨⟨⟨a,b⟩,c⟩,d⟩:=h
  exact qbu5 (by assumption) (by assumption) (by assumption) (by assumption)
 cmp:=qbwp
 ins:=fun n xs i ys=>qbw6 n xs i ys
 del:=fun n xs i j=>qbww n xs i j
 way:=fun n xs i ys=>qbw4 n xs i ys
theorem qbw2 (a:Rel):(((a.1.1,a.1.2.1,a.1.2.2.1,()),a.2.1,()):Rel)=a:=rfl
theorem qbxu (a:qca):((a.1,a.2.1,a.2.2.1,()):qca)=a:=rfl
theorem qbor {X:Ext} (hX:XI X) {n:Nat} (hn:W+12≤n) (r:Rel) (hr:RelSm r) (key:Row):qva (DD X n) r key=some (((qhw r key).1,(qhw r key).2,()),()):=by
 obtain ⟨n,rfl⟩:∃ k,n=k+2:=⟨n - 2,by omega⟩
 have hM:=qc1
 have hb:=qdm
 have hW:=qbl
 have h2:=hr.rows
 rw[qbnt hX.ok]
 simp only[q22,q90]
 have e1:=qbmg hX.ok (n:=n+1) (by omega) r hr
 have e2:=qbrb hX.toXC (n:=n+1) (by omega) r hr
 have e5:=qbw3 hX.ok (n:=n+1) (by omega) r hr key
 rw[e1,qf]
 dsimp only
 simp only[qbw2,qbxu]
 rw[e2,qf]
 dsimp only
 unfold qhw
 cases hok:q4c r
 ·rfl
 ·rw[Bool.not_true,br_f,e5,qf,if_pos rfl]
  dsimp only
  cases hk:q38 r key with
  | none=>rfl
  | some j=>
   have hj:=qbha hk
   dsimp only
   rw[qn (show ¬ (j:Int)<0 by omega),qp (by omega),hX.del]
   unfold delD
   rw[if_pos ⟨by omega,by omega,by omega,by omega⟩,Int.toNat_natCast,Int.toNat_natCast]
   rfl
end Go.G

/- The row FnExactRemove holds: for all arguments the law returns true and the arguments read as before. No condition. -/
namespace Go.G
set_option linter.unusedVariables false
set_option maxRecDepth 100000
open Go Go.V Go.Proofs

theorem qbuu (f:Row→Nat) (xs:List Row) (p:Nat):((xs.take p).map f).sum+((xs.drop p).map f).sum=(xs.map f).sum:=by
 rw[←List.sum_append,←List.map_append,List.take_append_drop]
theorem qbrf (r:Rel) (key:Row):tot RelT (qhw r key).1≤tot RelT r+tot (.sl qt) key+1:=by
 have hcut:∀ j,j<r.2.1.length→tot RelT (r.1,r.2.1.take j++r.2.1.drop (j+1),())≤tot RelT r:=fun j hj=>by
  have h:=qbuu (tot (.sl qt)) r.2.1 j
  have h1:=qoc (t:=.sl qt) r.2.1
  have h2:=qoc (t:=.sl qt) (r.2.1.take j++r.2.1.drop (j+1))
  have h5:r.2.1.drop j=r.2.1[j]::r.2.1.drop (j+1):=List.drop_eq_getElem_cons hj
  rw[h5] at h
  simp only[List.map_cons,List.sum_cons] at h
  simp only[List.map_append,List.sum_append,List.length_append,List.length_take,List.length_drop] at h2
  rw[qbdr,qbdr]
  show tot qcj r.1+(tot (.sl (.sl qt)) (r.2.1.take j++r.2.1.drop (j+1))+0)≤_
  omega
 unfold qhw
 cases hok:q4c r
 ·rw[if_neg Bool.noConfusion];show tot RelT r≤_;omega
 ·rw[if_pos rfl]
  cases hk:q38 r key with
  | none=>show tot RelT r≤_;omega
  | some j=>
   have:=hcut j (qbha hk)
   show tot RelT (r.1,r.2.1.take j++r.2.1.drop (j+1),())≤_
   omega
theorem qbd2 (a:Rel) (b:Row) (wa:Wf RelT a) (wb:Wf (.sl qt) b):qw9 (DD qsl (W+14)) a b=some ((true,()),()):=by
 have hI:=qbt9
 have hC:=hI.toXC
 have hX:=hC.ok
 have hd:=qk
 have hM:=qc1
 rw[q9o hX]
 simp only[qpf,qxm]
 rw[qbxh hX (by omega) a 1048576 wa (by omega),qf];dsimp only
 by_cases h:left RelT a 1048576<0
 ·rw[qo h]
 ·rw[qn h]
  obtain ⟨h1,h2⟩:=qfe h (by omega)
  rw[qbh7 hX (by omega) b _ wb (by omega),qf];dsimp only
  by_cases h3:left (.sl qt) b (left RelT a 1048576)<0
  ·rw[qo h3]
  ·rw[qn h3]
   obtain ⟨h4,h5⟩:=qfe h3 (by omega)
   have ht:=qoc (t:=qt) b
   have hb:b.length≤M:=by omega
   have hs:=qbvx (r:=a) (by omega)
   have hp:=qbrf a b
   have hR:Fit maxLen RelT (qhw a b).1:=qsx (by omega)
   have hc:=qbbt RelT a
   have hc2:=qbbt RelT (qhw a b).1
   have hlf:qir RelT=10:=rfl
   rw[hlf] at hc hc2
   have hc1:=qdb RelT 1 a
   have cb:=qbjk b
   have e1:=qbw1 hX (n:=W+13) (by omega) a (fitB h2)
   have e2:=qbj6 hX (n:=W+13) (by omega) b (qbrk (by have:=qdm;omega))
   have e3:=qbpm hX (n:=W+13) (by omega) a hs b
   have e4:=qbor hI (n:=W+13) (by omega) a hs b
   have e5:=qbr3 hX (n:=W+13) (by omega) a a (fitM h2)
   have e6:=qbjc hX (n:=W+13) (by omega) b b (qbrk (by omega))
   have e7:=qbr3 hX (n:=W+13) (by omega) (qhw a b).1 (qhw a b).1 hR
   have e8:=qbm2 hX (n:=W+13) (by omega) a 1 (fitM h2) (by omega) (by omega)
   have e9:=qbcy hX (n:=W+13) (by omega) b (mkT RelT 1 a).1 (by omega) (by omega) (by omega)
   have e10:=qbm2 hX (n:=W+13) (by omega) (qhw a b).1 1 hR (by omega) (by omega)
   have e11:=qbux hX (n:=W+13) (by omega) (qhw a b).1 1 hR (by omega) (by omega)
   have p1:=decide_eq_false (qbrw (t:=.sl qt) (k:=(mkT RelT 1 a).1) (by omega) b)
   have p2:=decide_eq_false (qbrw (t:=RelT) (k:=1) (by omega) (qhw a b).1)
   simp only[e1,e2,e3,e4,e5,e6,e7,e8,e9,e10,e11,p1,p2,qf,decide_true,Bool.not_true,cond_false,br_f,bne_self_eq_false]
end Go.G
namespace Go.Proofs.YtfafjngknkbngaaGreat
open Go.ChangeShapes Go.WideShapes Go.ChangeAt Go.RowKit Go.V Go.G
set_option maxRecDepth 100000
theorem fnExactRemove_lifted (os:Os) (started:os.Started) (H:Type) (enc:TypeId×Value→H) :
  ReturnsInHanded {} Tryz.checked os 7 .any (Rows.fnExactRemoveSpec.pre6 enc Tryz.prog Tryz.f7 Rows.fnExactRemoveRow.domain false) (Rows.fnExactRemoveSpec.post enc Tryz.prog Tryz.f7 false true false false):=
 qbt0 (X:=qsl) (tb:=4) started Tryz.func7 (by kernel_rfl)
  (ChangeSpec.witness6 (enc:=enc) (C:=Tryz.checked) false ⟨#[],Tryz.f7.params.map fun t=>((Tryz.prog.info? t).bind (·.zero)).getD .nilIface,[]⟩ 8 (by kernel_rfl) (by kernel_rfl) (by kernel_rfl) (by kernel_rfl))
  ⟨rfl,rfl,rfl,rfl,trivial⟩ (by kernel_rfl) (by kernel_rfl) (by kernel_rfl) rfl
  (fun ds h=>by
   match ds,h with
   | [d0,d1],_=>exact ⟨rfl,rfl,rfl⟩)
  (fun a wa=>⟨W+14,((true,()),()),qbd2 a.1 a.2.1 wa.1 wa.2.1,fun h Pr Gs us k=>by
   obtain ⟨v,vs,rfl,⟨c,r,rfl⟩,e⟩:=k
   obtain rfl:vs=[]:=e
   simp only[Rep] at r
   subst r
   rfl⟩)
theorem fnExactRemove_holds:Rows.FnExactRemoveSaid:=
 OpenClaim.holds_of_wide 7 Tryz.f7 rfl rfl rfl rfl rfl rfl rfl ⟨rfl,rfl,rfl,rfl,rfl⟩ rfl rfl rfl rfl rfl (by kernel_rfl) Tryz.func7 (by kernel_rfl)
  (of_decide_eq_true (by kernel_rfl)) (by unfold Func.isWrapper;first | (rw[if_pos (by decide +kernel)];kernel_rfl) | (rw[if_neg (by decide +kernel)];exact ⟨rfl,rfl⟩))
  (fun os started H enc _=>fnExactRemove_lifted os started H enc)
#print axioms fnExactRemove_holds
end Go.Proofs.YtfafjngknkbngaaGreat


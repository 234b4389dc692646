/- The row FnWays holds: for all bytes the law returns true and the argument reads as before. No condition. -/
import Derived.Lib.AppendZerosOnto
import Derived.Laws.Externs
import Derived.Lib.Overlaps
import Derived.Test.YtfafjngknkbngaaGreatAPFnWays2
set_option linter.unusedVariables false
set_option linter.unusedSimpArgs false
set_option linter.unusedSectionVars false
namespace Go.V
set_option maxRecDepth 100000
open Go Go.Proofs Go.RowKit
abbrev TWay:Ty:=.pair .str (.pair .str .unit)
abbrev SigW:Sig:=⟨[.own (.sl TWay) (Mk.top (.sl TWay)),.val (.int .i64),.own (.sl TWay) (Mk.top (.sl TWay))],[.val (.sl TWay) (Mk.top (.sl TWay))]⟩
theorem sigW:ctx.sig 93=SigW:=by kernel_rfl
def insW (xs:List TWay.den) (i:Int) (ys:List TWay.den):Option (List TWay.den):=if 0≤i∧i≤xs.length∧0<ys.length∧xs.length+ys.length≤q0 then some (xs.take i.toNat++ys++xs.drop i.toNat) else none
theorem qu4 {P:Program} (w:World) (dT sT ty elem:TypeId) {i:TypeInfo} (b o dLen dCap:Nat) (a:Addr) (sLen sCap:Nat) (cs:List Value)
  (hu:P.underlying dT=some (.slice elem)) (hi:P.info? elem=some i) (hn:Nat.min sLen dLen * i.size=cs.length)
  (hsrc:∀ j v,cs[j]? = some v→w.cell? (a.add j)=some v) (hc:∀ j,j<cs.length→(w.cell? ⟨b,o+j,none⟩).isSome=true) (hf:∀ j,j<cs.length→w.frozen? ⟨b,o+j,none⟩=false) (h1:∀ v∈cs,v.oneCell'=true) :
  (Builtin.copy_ #[dT,sT] ty #[.slice (some ⟨b,o,none⟩) dLen dCap,.slice (some a) sLen sCap]).run P w=.ok (goInt (Nat.min sLen dLen)) (w.setCells b o cs):=by
 have hl:=run_loadCells_list (P:=P) w a cs hsrc
 have hst:=run_storeCells_cells (P:=P) b o cs 0 w (by simpa using hc) (by simpa using hf) h1
 simp[Builtin.copy_,run_underlying hu,Builtin.lenOf,Builtin.firstCells,sizeOf,typeInfo,hi,hn,hl,hst]
theorem El.all {h:Array Obj} {Pr:BS} {e:Ty} {mi:Mk} {xs:List e.den} {cells:List Value} {F:Nat→BS} (el:El h Pr e mi xs cells F) (hw:0<e.width) (hl:cells.length=xs.length * e.width):∀ u∈cells,u.oneCell'=true:=by
 intro u hu
 obtain ⟨k,hk,rfl⟩:=List.getElem_of_mem hu
 have hk2:k / e.width<xs.length:=by rw[Nat.div_lt_iff_lt_mul hw];omega
 have r:=el.rep (k / e.width) hk2
 refine Rep.one _ r _ ?_
 rw[List.mem_iff_getElem?]
 refine ⟨k % e.width,?_⟩
 have e1:k / e.width * e.width+k % e.width=k:=by rw[Nat.mul_comm];exact Nat.div_add_mod k e.width
 rw[List.getElem?_take,if_pos (Nat.mod_lt _ hw),List.getElem?_drop,e1,List.getElem?_eq_getElem]
theorem qbwf:qbhp Tryz.prog SigW 93 fun a=>(insW a.1 a.2.1 a.2.2.1).map fun r=>((r,()),()):=by
 intro a r h w Pr Fs vs pre
 obtain ⟨xs,i,ys,⟨⟩⟩:=a
 change List TWay.den at xs
 change Int at i
 change List TWay.den at ys
 obtain ⟨v1,vs1,rfl,⟨c1,rep1,rfl⟩,v2,vs2,rfl,⟨c2,r2,rfl⟩,v3,vs3,rfl,⟨c3,rep3,rfl⟩,k3⟩:=pre.rel
 obtain rfl:vs3=[]:=k3
 simp only[Rep] at r2
 subst r2
 dsimp only at h
 unfold insW at h
 split at h
 ·rename_i hc
  obtain ⟨h0,hi,hm,hbd⟩:=hc
  replace h0:0≤i:=h0
  replace hi:i≤xs.length:=hi
  replace hm:0<ys.length:=hm
  replace hbd:xs.length+ys.length≤274877906944:=hbd
  simp only[Option.map_some,Option.some.injEq] at h
  subst h
  obtain ⟨i,rfl⟩:=Int.eq_ofNat_of_zero_le h0
  have hi2:i≤xs.length:=by omega
  obtain ⟨ad1,cap1,cells1,F1,rfl,hl1,hlc1,hsrc1,el1,hF1,hown1⟩:=qmq (by simp[Mk.top]) (by simp[Mk.top]) rep1
  obtain ⟨ad2,cap2,cells2,F2,rfl,hl2,hlc2,hsrc2,el2,hF2,hown2⟩:=qmq (by simp[Mk.top]) (by simp[Mk.top]) rep3
  have hw1:TWay.width=2:=rfl
  replace hlc1:xs.length≤cap1:=hlc1
  replace hlc2:ys.length≤cap2:=hlc2
  have hl1':cells1.length=xs.length * 2:=by rw[hl1,hw1]
  have hl2':cells2.length=ys.length * 2:=by rw[hl2,hw1]
  rcases hown2 0 _ rfl with hc0 | ⟨b2,cs2,rfl,hbF2,hbo2,hcapb2,hFb2,hcells2⟩
  ·exact absurd hc0 (by omega)
  replace hcapb2:cap2 * 2≤cs2.size:=by rw[hw1] at hcapb2;exact hcapb2
  replace hcells2:cells2=sub cs2 0 (ys.length * 2):=by rw[hcells2,hw1]
  have hd12:∀ p q,Dis (F1 p) (F2 q):=fun p q=>(pre.dis 0 2 (by decide)).mono (hF1 p) (hF2 q)
  obtain ⟨FF,elz,hFF⟩:=El.insert el1 el2 i hi2 (by rw[hl1]) (by rw[hl2]) hd12
  rw[hw1] at elz
  have hFs:∀ t b,FF t b→∃ k,Fs k b:=fun t b hb=>by
   rcases hFF t b hb with ⟨c,hc⟩ | ⟨c,hc⟩
   ·exact ⟨0,hF1 c b hc⟩
   ·exact ⟨2,hF2 c b hc⟩
  have hlz:(xs.take i++ys++xs.drop i).length=xs.length+ys.length:=by simp only[List.length_append,List.length_take,List.length_drop];omega
  have hone1:=el1.all (by decide) hl1
  have hone2:=el2.all (by decide) hl2
  have uT:Tryz.prog.underlying 35=some (.slice 42):=by kernel_rfl
  have u3:Tryz.prog.underlying 3=some (.int .i64):=by kernel_rfl
  obtain ⟨i0,z0,hi0,hs0,hz0,hzs,hb0⟩:∃ i0 z0,Tryz.prog.info? 42=some i0∧i0.size=2∧i0.zero=some z0∧z0.cells.size=2∧i0.bytes=32:=by
   have k:((Tryz.prog.info? 42).map fun x=>(x.size,x.zero.map (·.cells.size),x.bytes))=some (2,some 2,32):=by kernel_rfl
   cases h:Tryz.prog.info? 42 with
   | none=>rw[h] at k;cases k
   | some x=>
    rw[h] at k
    simp only[Option.map_some,Option.some.injEq,Prod.mk.injEq] at k
    cases hz:x.zero with
    | none=>rw[hz] at k;cases k.2.1
    | some z=>
     rw[hz] at k
     simp only[Option.map_some,Option.some.injEq] at k
     exact ⟨x,z,rfl,k.1,hz,k.2.1,k.2.2⟩
  have hn2:(Builtin.firstCells i0.size ys.length (.slice (some ⟨b2,0,none⟩) ys.length cap2)).run Tryz.prog w=.ok cells2.toArray w:=by
   rw[hs0]
   exact qg6 hl2' (.inr ⟨b2,0,rfl,by rw[hcells2];exact qbz hbo2.blk (by omega)⟩)
  have ht0:cells1.take (xs.length * 2)=cells1:=List.take_of_length_le (by omega)
  have hd0:cells1.drop (xs.length * 2)=[]:=List.drop_eq_nil_of_le (by omega)
  have houts:∀ (h:Array Obj) (v1 v2 v3:Value),qgb h Pr (fun _=>Nil) 0 SigW.params () [v1,v2,v3]:=fun h v1 v2 v3=>⟨_,_,rfl,_,_,rfl,_,_,rfl,rfl⟩
  by_cases hend:i=xs.length
  ·subst hend
   rw[ht0,hd0,List.append_nil] at elz
   by_cases hroom:xs.length+ys.length≤cap1
   ·rcases hown1 0 _ rfl with hc0 | ⟨b1,cs1,rfl,hbF1,hbo1,hcapb1,hFb1,hcells1⟩
    ·exact absurd hc0 (by omega)
    replace hcapb1:cap1 * 2≤cs1.size:=by rw[hw1] at hcapb1;exact hcapb1
    replace hcells1:cells1=sub cs1 0 (xs.length * 2):=by rw[hcells1,hw1]
    have hfit:xs.length * 2+cells2.length≤cs1.size:=by omega
    have hr:∀ ty,(Builtin.append_ #[35,35] ty #[.slice (some ⟨b1,0,none⟩) xs.length cap1,.slice (some ⟨b2,0,none⟩) ys.length cap2]).run Tryz.prog w=.ok (.slice (some ⟨b1,0,none⟩) (xs.length+ys.length) cap1) (w.setCells b1 (xs.length * 2) cells2):=fun ty=>
     qlp (P:=Tryz.prog) w (ty:=ty) rfl rfl uT uT hi0 hn2 hroom (fun ad e=>by
      simp only[Option.some.injEq] at e
      subst e
      rw[Addr.add_mid,Nat.zero_add,hs0]
      have th:=qe3 (w:=w) (o:=xs.length * 2) (n:=cells2.length) hbo1 hfit
      have:=run_storeCells_cells (P:=Tryz.prog) b1 (xs.length * 2) cells2 0 w (fun t ht=>by simpa using (th t ht).1) (fun t ht=>by simpa using (th t ht).2) hone2
      simpa using this) (fun e=>by simp at e)
    obtain ⟨ty,lo,hi',he,hfz⟩:=hbo1
    obtain ⟨cs3,hcs3,hcs3l⟩:=qdq cells2 (xs.length * 2) w cs1 he hfit
    have hsz3:cs3.size=cs1.size:=by rw[←Array.length_toList,hcs3l,qcl (by simpa using hfit),Array.length_toList]
    have hob3:qbg (w.setCells b1 (xs.length * 2) cells2).heap b1 cs3:=⟨ty,lo,hi',hcs3,fun t ht=>hfz t (by omega)⟩
    have h7:cs1.toList.length=cs1.size:=Array.length_toList
    have htake:cs3.toList.take ((xs.take xs.length++ys++xs.drop xs.length).length * TWay.width)=cells1++cells2:=by
     rw[hw1,hlz,hcs3l,hcells1]
     simp only[repl,sub,List.drop_zero]
     rw[List.take_append_of_le_length (by rw[List.length_append,List.length_take,hl2'];omega),List.take_of_length_le (by rw[List.length_append,List.length_take,hl2'];omega)]
    have hrest:=qck (b:=b1) cells2 (xs.length * 2) w
    have hFBb:∀ t,¬ FF t b1:=fun t hb=>by
     rcases hFF t b1 hb with ⟨c,hc⟩ | ⟨c,hc⟩
     ·exact hFb1 c hc
     ·exact pre.dis 0 2 (by decide) b1 hbF1 (hF2 c b1 hc)
    refine (qboa (some ⟨b1,0,none⟩) xs.length cap1 ys.length (some ⟨b2,0,none⟩) cap2 w _ _ hm hlc1 (.inl ⟨b1,rfl⟩) hr).mono ?_
    rintro e w' ⟨rfl,rfl⟩
    obtain ⟨val,Pr',Gs,Os,us,hv,hp⟩:=qwo pre elz hFs hob3 (cap:=cap1) (by rw[hw1];omega) (by rw[hlz];exact hroom) htake (.inr ⟨0,hbF1⟩) hFBb (fun b' _ hb'=>qbi cells2 _ w b' hb') (by rw[q9];exact Nat.le_refl _) (by rw[q9];exact pre.lim 0 b1 hbF1) hrest.1 hrest.2.1 hrest.2.2 () (houts _ _ _ _)
    exact ⟨val,Pr',Gs,Os,us,by rw[←hv,hlz],hp⟩
   ·have hg:cap1<xs.length+ys.length:=by omega
    have hn2d:(Builtin.firstCells i0.size ys.length (.slice (some ⟨b2,0,none⟩) ys.length cap2)).run Tryz.prog w.drew=.ok cells2.toArray w.drew:=by
     rw[hs0]
     exact qg6 hl2' (.inr ⟨b2,0,rfl,qdk (by rw[hcells2];exact qbz hbo2.blk (by omega))⟩)
    have hn1d:(Builtin.firstCells i0.size xs.length (.slice ad1 xs.length cap1)).run Tryz.prog w.drew=.ok cells1.toArray w.drew:=by
     rw[hs0]
     refine qg6 hl1' ?_
     rcases hsrc1 with ⟨h1,h2⟩ | ⟨b,o,cs,h1,h2,h3,h4⟩
     ·exact .inl ⟨h1,h2⟩
     ·exact .inr ⟨b,o,h1,qdk (h4 ▸ qbz h2 h3)⟩
    have hfit:Builtin.nextslicecap (xs.length+ys.length) cap1 * i0.bytes≤281474976710656:=by
     have:=Room.nextslicecap_le' (need:=xs.length+ys.length) (old:=cap1) hg
     rw[hb0];omega
    have hr:=fun ty=>qxb (P:=Tryz.prog) w (ats:=#[35,35]) (ty:=ty) rfl rfl uT uT hi0 hz0 hn2d hn1d hg (by omega) hfit
    have hge:=grownCap_ge w (xs.length+ys.length) cap1 42
    generalize grownCap w (xs.length+ys.length) cap1 42=cap' at hr hge
    have hcss:(cells1.toArray++cells2.toArray++Builtin.zeroCells z0.cells (cap' - (xs.length+ys.length))).size=cap' * 2:=by
     simp only[Array.size_append,List.size_toArray,size_zeroCells,hzs,hl1',hl2'];omega
    have htk:(cells1.toArray++cells2.toArray++Builtin.zeroCells z0.cells (cap' - (xs.length+ys.length))).toList.take ((xs.length+ys.length) * 2)=cells1++cells2:=by
     simp only[Array.toList_append,List.append_assoc]
     rw[←List.append_assoc,List.take_append_of_le_length (by rw[List.length_append];omega),List.take_of_length_le (by rw[List.length_append];omega)]
    generalize cells1.toArray++cells2.toArray++Builtin.zeroCells z0.cells (cap' - (xs.length+ys.length))=cs at hr hcss htk
    have h1a:(∃ b,ad1=some ⟨b,0,none⟩)∨(xs.length=0∧cap1=0):=by
     rcases hown1 0 _ rfl with hc0 | ⟨b1,cs1,rfl,_⟩
     ·exact .inr ⟨by omega,hc0⟩
     ·exact .inl ⟨b1,rfl⟩
    refine (qboa ad1 xs.length cap1 ys.length (some ⟨b2,0,none⟩) cap2 w _ _ hm hlc1 h1a hr).mono ?_
    rintro e w' ⟨rfl,rfl⟩
    obtain ⟨val,Pr',Gs,Os,us,hv,hp⟩:=qwo (w2:=w.drew.alloc (.cells cs 42)) pre elz hFs (B:=w.heap.size) (cs:=cs) qbg.new (cap:=cap') (by rw[hw1,hcss];exact Nat.le_refl _) (by rw[hlz];exact hge) (by rw[hw1,hlz];exact htk) (.inl rfl)
     (fun t hb=>by obtain ⟨k,hk⟩:=hFs t _ hb;exact Nat.lt_irrefl _ (pre.lim k _ hk)) (fun b' hb1 _=>qhs b' hb1) (by show w.heap.size≤(w.heap.push _).size;simp) (by show w.heap.size<(w.heap.push _).size;simp) rfl rfl rfl () (houts _ _ _ _)
    exact ⟨val,Pr',Gs,Os,us,by rw[←hv,hlz],hp⟩
  ·have hlt:i<xs.length:=by omega
   rcases hown1 0 _ rfl with hc0 | ⟨b1,cs1,rfl,hbF1,hbo1,hcapb1,hFb1,hcells1⟩
   ·exact absurd hc0 (by omega)
   replace hcapb1:cap1 * 2≤cs1.size:=by rw[hw1] at hcapb1;exact hcapb1
   replace hcells1:cells1=sub cs1 0 (xs.length * 2):=by rw[hcells1,hw1]
   have hb12:b2≠b1:=fun e=>pre.dis 0 2 (by decide) b1 hbF1 (e ▸ hbF2)
   have hcd:cells1.drop (i * 2)=sub cs1 (i * 2) ((xs.length - i) * 2):=by
    rw[hcells1]
    simp only[sub,List.drop_zero,List.drop_take]
    congr 1;omega
   have hct:cells1.take (i * 2)=cs1.toList.take (i * 2):=by
    rw[hcells1]
    simp only[sub,List.drop_zero,List.take_take]
    congr 1;omega
   have hdl:(cells1.drop (i * 2)).length=(xs.length - i) * 2:=by rw[List.length_drop,hl1'];omega
   have honed:∀ u∈cells1.drop (i * 2),u.oneCell'=true:=fun u hu=>hone1 u (List.mem_of_mem_drop hu)
   have hFBb:∀ t,¬ FF t b1:=fun t hb=>by
    rcases hFF t b1 hb with ⟨c,hc⟩ | ⟨c,hc⟩
    ·exact hFb1 c hc
    ·exact pre.dis 0 2 (by decide) b1 hbF1 (hF2 c b1 hc)
   by_cases hroom:xs.length+ys.length≤cap1
   ·have hov:∀ lb cb,(callFunc 156 #[.slice (some ⟨b2,0,none⟩) ys.length cap2,.slice (some ⟨b1,(i+ys.length) * 2,none⟩) lb cb]).run Tryz.prog w=.ok (.value (.bool false)) w:=by
     intro lb cb
     obtain ⟨e2,lo2,hi2,he2,hf2⟩:=hbo2
     obtain ⟨e1,lo1,hi1,he1,hf1⟩:=hbo1
     have hnf:∀ k,k≤cs2.size→w.frozen? ⟨b2,k,none⟩=false:=fun k hk=>by
      have:=hf2 k hk
      simp only[World.frozen?,he2]
      simpa using this
     rw[run_callFunc_extern (P:=Tryz.prog) (f:=156) (fn:=Tryz.f156) Tryz.func156 (by kernel_rfl) (by kernel_rfl) (by kernel_rfl) (e:=Extern.SlicesOverlaps.overlaps #[35,35] #[4]) (by kernel_rfl),
      Lib.run_overlaps_apart w 35 4 42 uT 2 (fun w=>by simp[sizeOf,typeInfo,hi0,hs0]) ⟨b2,0,none⟩ ⟨b1,(i+ys.length) * 2,none⟩ ys.length cap2 lb cb hb12 e2 e1 cs2.size cs1.size (by simp[World.shape?,he2]) (by simp[World.shape?,he1]) (by omega) (hnf 0 (by omega)) (hnf _ (Nat.le_refl _))]
     rfl
    have hfitA:(i+ys.length) * 2+(cells1.drop (i * 2)).length≤cs1.size:=by rw[hdl];omega
    have thA:=qe3 (w:=w) (o:=(i+ys.length) * 2) (n:=(cells1.drop (i * 2)).length) hbo1 hfitA
    have hB:∀ ty dc sc,(Builtin.copy_ #[35,35] ty #[.slice (some ⟨b1,(i+ys.length) * 2,none⟩) (xs.length+ys.length - (i+ys.length)) dc,.slice (some ⟨b1,i * 2,none⟩) (xs.length+ys.length - i) sc]).run Tryz.prog w.drew=.ok (goInt (Nat.min (xs.length+ys.length - i) (xs.length+ys.length - (i+ys.length)))) (w.drew.setCells b1 ((i+ys.length) * 2) (cells1.drop (i * 2))):=fun ty dc sc=>
     qu4 w.drew 35 35 ty 42 b1 ((i+ys.length) * 2) _ dc ⟨b1,i * 2,none⟩ _ sc (cells1.drop (i * 2)) uT hi0 (by rw[hdl,hs0];simp only[Nat.min_def];split<;>omega)
      (fun k v hk=>by rw[Addr.add_mid];exact qdk (w:=w) (b:=b1) (o:=i * 2) (cs:=cells1.drop (i * 2)) (by rw[hcd];exact qbz hbo1.blk (by omega)) k v hk) (fun k hk=>(thA k hk).1) (fun k hk=>(thA k hk).2) honed
    obtain ⟨ty,lo,hi',he,hfz⟩:=hbo1
    obtain ⟨cs3,hcs3,hcs3l⟩:=qdq (cells1.drop (i * 2)) ((i+ys.length) * 2) w.drew cs1 he hfitA
    have hsz3:cs3.size=cs1.size:=by rw[←Array.length_toList,hcs3l,qcl (by simpa using hfitA),Array.length_toList]
    have hob3:qbg (w.drew.setCells b1 ((i+ys.length) * 2) (cells1.drop (i * 2))).heap b1 cs3:=⟨ty,lo,hi',hcs3,fun t ht=>hfz t (by omega)⟩
    have hfitB:i * 2+cells2.length≤cs3.size:=by omega
    have thB:=qe3 (w:=w.drew.setCells b1 ((i+ys.length) * 2) (cells1.drop (i * 2))) (o:=i * 2) (n:=cells2.length) hob3 hfitB
    have hr2:(w.drew.setCells b1 ((i+ys.length) * 2) (cells1.drop (i * 2))).rangeAt b2 0 cells2:=by
     rw[hcells2]
     exact qbz (Blk.congr hbo2.blk (qbi (cells1.drop (i * 2)) _ w.drew b2 hb12)) (by omega)
    have hC:∀ ty dc,(Builtin.copy_ #[35,35] ty #[.slice (some ⟨b1,i * 2,none⟩) (xs.length+ys.length - i) dc,.slice (some ⟨b2,0,none⟩) ys.length cap2]).run Tryz.prog (w.drew.setCells b1 ((i+ys.length) * 2) (cells1.drop (i * 2)))=.ok (goInt (Nat.min ys.length (xs.length+ys.length - i))) ((w.drew.setCells b1 ((i+ys.length) * 2) (cells1.drop (i * 2))).setCells b1 (i * 2) cells2):=fun ty dc=>
     qu4 _ 35 35 ty 42 b1 (i * 2) _ dc ⟨b2,0,none⟩ _ cap2 cells2 uT hi0 (by rw[hl2',hs0];simp only[Nat.min_def];split<;>omega)
      (fun k v hk=>by rw[Addr.add_mid];exact hr2 k v hk) (fun k hk=>(thB k hk).1) (fun k hk=>(thB k hk).2) hone2
    obtain ⟨cs4,hcs4,hcs4l⟩:=qdq cells2 (i * 2) _ cs3 hcs3 hfitB
    have hsz4:cs4.size=cs3.size:=by rw[←Array.length_toList,hcs4l,qcl (by simpa using hfitB),Array.length_toList]
    have hob4:qbg ((w.drew.setCells b1 ((i+ys.length) * 2) (cells1.drop (i * 2))).setCells b1 (i * 2) cells2).heap b1 cs4:=⟨ty,lo,hi',hcs4,fun t ht=>hfz t (by omega)⟩
    have h7:cs1.toList.length=cs1.size:=Array.length_toList
    have htake:cs4.toList.take ((xs.take i++ys++xs.drop i).length * TWay.width)=cells1.take (i * 2)++cells2++cells1.drop (i * 2):=by
     have e:=qbvq (l:=cs1.toList) (D:=cells1.drop (i * 2)) (C:=cells2) (i:=i * 2) (m:=ys.length * 2) hl2' (by rw[h7,←Nat.add_mul];exact hfitA)
     rw[hw1,hlz,hcs4l,hcs3l,hct,Nat.add_mul i]
     rw[show (xs.length+ys.length) * 2=i * 2+ys.length * 2+(cells1.drop (i * 2)).length by rw[hdl];omega]
     exact e
    have hrest1:=qck (b:=b1) (cells1.drop (i * 2)) ((i+ys.length) * 2) w.drew
    have hrest2:=qck (b:=b1) cells2 (i * 2) (w.drew.setCells b1 ((i+ys.length) * 2) (cells1.drop (i * 2)))
    have hsize:((w.drew.setCells b1 ((i+ys.length) * 2) (cells1.drop (i * 2))).setCells b1 (i * 2) cells2).heap.size=w.heap.size:=by rw[q9,q9];rfl
    refine (qbsg b1 xs.length cap1 i ys.length ⟨b2,0,none⟩ cap2 w _ _ _ _ hlt hm hroom (by omega) hov hB hC).mono ?_
    rintro e w' ⟨rfl,rfl⟩
    obtain ⟨val,Pr',Gs,Os,us,hv,hp⟩:=qwo pre elz hFs hob4 (cap:=cap1) (by rw[hw1];omega) (by rw[hlz];exact hroom) htake (.inr ⟨0,hbF1⟩) hFBb
     (fun b' _ hb'=>(qbi cells2 _ _ b' hb').trans (qbi (cells1.drop (i * 2)) _ w.drew b' hb')) (by rw[hsize];exact Nat.le_refl _) (by rw[hsize];exact pre.lim 0 b1 hbF1) (hrest2.1.trans hrest1.1) (hrest2.2.1.trans hrest1.2.1) (hrest2.2.2.trans hrest1.2.2) () (houts _ _ _ _)
    exact ⟨val,Pr',Gs,Os,us,by rw[←hv,hlz],hp⟩
   ·have hg:cap1<xs.length+ys.length:=by omega
    obtain ⟨K,hK⟩:∃ K,K=xs.length+ys.length - i:=⟨_,rfl⟩
    have hKi:i+K=xs.length+ys.length:=by omega
    have hn1d:(Builtin.firstCells i0.size i (.slice (some ⟨b1,0,none⟩) i cap1)).run Tryz.prog w.drew=.ok (cells1.take (i * 2)).toArray w.drew:=by
     rw[hs0]
     refine qg6 (by rw[List.length_take,hl1'];omega) (.inr ⟨b1,0,rfl,qdk ?_⟩)
     have e:cells1.take (i * 2)=sub cs1 0 (i * 2):=by rw[hct];simp only[sub,List.drop_zero]
     rw[e];exact qbz hbo1.blk (by omega)
    have hfit:Builtin.nextslicecap (i+K) cap1 * i0.bytes≤281474976710656:=by
     have:=Room.nextslicecap_le' (need:=i+K) (old:=cap1) (by omega)
     rw[hb0];omega
    have hr:=fun ty=>Lib.run_append_grow_zeros (P:=Tryz.prog) w 35 3 ty 42 i0 _ .i64 .i64 uT u3 hi0 hz0 (some ⟨b1,0,none⟩) i cap1 (cells1.take (i * 2)) hn1d K (by omega) (by omega) (by omega) (by omega) (by rw[hb0];omega) hfit
    have hge:=grownCap_ge w (i+K) cap1 42
    generalize grownCap w (i+K) cap1 42=cap' at hr hge
    have hcss:((cells1.take (i * 2)).toArray++Builtin.zeroCells z0.cells K++Builtin.zeroCells z0.cells (cap' - (i+K))).size=cap' * 2:=by
     simp only[Array.size_append,List.size_toArray,size_zeroCells,hzs,List.length_take,hl1'];omega
    have htk:((cells1.take (i * 2)).toArray++Builtin.zeroCells z0.cells K++Builtin.zeroCells z0.cells (cap' - (i+K))).toList.take (i * 2)=cells1.take (i * 2):=by
     simp only[Array.toList_append,List.append_assoc]
     rw[List.take_append_of_le_length (by rw[List.length_take,hl1'];omega),List.take_of_length_le (by rw[List.length_take,hl1'];omega)]
    generalize (cells1.take (i * 2)).toArray++Builtin.zeroCells z0.cells K++Builtin.zeroCells z0.cells (cap' - (i+K))=cs0 at hr hcss htk
    rw[hKi] at hr hge
    have hKI:((K:Nat):Int)=(xs.length:Int)+(ys.length:Int) - (i:Int):=by omega
    rw[hKI] at hr
    have hob0:qbg (w.drew.alloc (.cells cs0 42)).heap w.heap.size cs0:=qbg.new
    have hb1lt:=pre.lim 0 b1 hbF1
    have hb2lt:=pre.lim 2 b2 hbF2
    have hb1B:b1≠w.heap.size:=by omega
    have hb2B:b2≠w.heap.size:=by omega
    have hold:∀ b',b'<w.heap.size→(w.drew.alloc (.cells cs0 42)).heap[b']? = w.heap[b']?:=fun b' hb'=>qhs b' hb'
    have hfitA:i * 2+cells2.length≤cs0.size:=by omega
    have thA:=qe3 (w:=w.drew.alloc (.cells cs0 42)) (o:=i * 2) (n:=cells2.length) hob0 hfitA
    have hr2:(w.drew.alloc (.cells cs0 42)).rangeAt b2 0 cells2:=by
     rw[hcells2]
     exact qbz (Blk.congr hbo2.blk (hold b2 hb2lt)) (by omega)
    have hB:∀ ty,(Builtin.copy_ #[35,35] ty #[.slice (some ⟨w.heap.size,i * 2,none⟩) (xs.length+ys.length - i) (cap' - i),.slice (some ⟨b2,0,none⟩) ys.length cap2]).run Tryz.prog (w.drew.alloc (.cells cs0 42))=.ok (goInt (Nat.min ys.length (xs.length+ys.length - i))) ((w.drew.alloc (.cells cs0 42)).setCells w.heap.size (i * 2) cells2):=fun ty=>
     qu4 _ 35 35 ty 42 w.heap.size (i * 2) _ _ ⟨b2,0,none⟩ _ cap2 cells2 uT hi0 (by rw[hl2',hs0];simp only[Nat.min_def];split<;>omega)
      (fun k v hk=>by rw[Addr.add_mid];exact hr2 k v hk) (fun k hk=>(thA k hk).1) (fun k hk=>(thA k hk).2) hone2
    obtain ⟨ty,lo,hi',he,hfz⟩:=hob0
    obtain ⟨cs3,hcs3,hcs3l⟩:=qdq cells2 (i * 2) (w.drew.alloc (.cells cs0 42)) cs0 he hfitA
    have h7:cs0.toList.length=cs0.size:=Array.length_toList
    have hsz3:cs3.size=cs0.size:=by rw[←Array.length_toList,hcs3l,qcl (by simpa using hfitA),Array.length_toList]
    have hob3:qbg ((w.drew.alloc (.cells cs0 42)).setCells w.heap.size (i * 2) cells2).drew.heap w.heap.size cs3:=⟨ty,lo,hi',hcs3,fun t ht=>hfz t (by omega)⟩
    have hfitB:(i+ys.length) * 2+(cells1.drop (i * 2)).length≤cs3.size:=by rw[hdl];omega
    have thB:=qe3 (w:=((w.drew.alloc (.cells cs0 42)).setCells w.heap.size (i * 2) cells2).drew) (o:=(i+ys.length) * 2) (n:=(cells1.drop (i * 2)).length) hob3 hfitB
    have hr1:((w.drew.alloc (.cells cs0 42)).setCells w.heap.size (i * 2) cells2).drew.rangeAt b1 (i * 2) (cells1.drop (i * 2)):=by
     rw[hcd]
     exact qdk (qbz (Blk.congr hbo1.blk ((qbi cells2 _ _ b1 hb1B).trans (hold b1 hb1lt))) (by omega))
    have hC:∀ ty,(Builtin.copy_ #[35,35] ty #[.slice (some ⟨w.heap.size,(i+ys.length) * 2,none⟩) (xs.length+ys.length - (i+ys.length)) (cap' - (i+ys.length)),.slice (some ⟨b1,i * 2,none⟩) (xs.length - i) (cap1 - i)]).run Tryz.prog ((w.drew.alloc (.cells cs0 42)).setCells w.heap.size (i * 2) cells2).drew=.ok (goInt (Nat.min (xs.length - i) (xs.length+ys.length - (i+ys.length)))) (((w.drew.alloc (.cells cs0 42)).setCells w.heap.size (i * 2) cells2).drew.setCells w.heap.size ((i+ys.length) * 2) (cells1.drop (i * 2))):=fun ty=>
     qu4 _ 35 35 ty 42 w.heap.size ((i+ys.length) * 2) _ _ ⟨b1,i * 2,none⟩ _ _ (cells1.drop (i * 2)) uT hi0 (by rw[hdl,hs0];simp only[Nat.min_def];split<;>omega)
      (fun k v hk=>by rw[Addr.add_mid];exact hr1 k v hk) (fun k hk=>(thB k hk).1) (fun k hk=>(thB k hk).2) honed
    obtain ⟨cs4,hcs4,hcs4l⟩:=qdq (cells1.drop (i * 2)) ((i+ys.length) * 2) ((w.drew.alloc (.cells cs0 42)).setCells w.heap.size (i * 2) cells2).drew cs3 hcs3 hfitB
    have hsz4:cs4.size=cs3.size:=by rw[←Array.length_toList,hcs4l,qcl (by simpa using hfitB),Array.length_toList]
    have hob4:qbg (((w.drew.alloc (.cells cs0 42)).setCells w.heap.size (i * 2) cells2).drew.setCells w.heap.size ((i+ys.length) * 2) (cells1.drop (i * 2))).heap w.heap.size cs4:=⟨ty,lo,hi',hcs4,fun t ht=>hfz t (by omega)⟩
    have htake:cs4.toList.take ((xs.take i++ys++xs.drop i).length * TWay.width)=cells1.take (i * 2)++cells2++cells1.drop (i * 2):=by
     have e:=qbvz (l:=cs0.toList) (D:=cells1.drop (i * 2)) (C:=cells2) (i:=i * 2) (m:=ys.length * 2) hl2' (by rw[h7];omega)
     rw[hw1,hlz,hcs4l,hcs3l,←htk,Nat.add_mul i]
     rw[show (xs.length+ys.length) * 2=i * 2+ys.length * 2+(cells1.drop (i * 2)).length by rw[hdl];omega]
     exact e
    have hrest1:=qck (b:=w.heap.size) cells2 (i * 2) (w.drew.alloc (.cells cs0 42))
    have hrest2:=qck (b:=w.heap.size) (cells1.drop (i * 2)) ((i+ys.length) * 2) ((w.drew.alloc (.cells cs0 42)).setCells w.heap.size (i * 2) cells2).drew
    have hsize:(((w.drew.alloc (.cells cs0 42)).setCells w.heap.size (i * 2) cells2).drew.setCells w.heap.size ((i+ys.length) * 2) (cells1.drop (i * 2))).heap.size=w.heap.size+1:=by
     rw[q9]
     show ((w.drew.alloc (.cells cs0 42)).setCells w.heap.size (i * 2) cells2).heap.size=_
     rw[q9];show (w.heap.push _).size=_;simp
    refine (qbsn b1 xs.length cap1 i ys.length ⟨b2,0,none⟩ cap2 w.heap.size cap' w _ _ _ _ _ hlt hm hlc1 hg hge (by omega) hr hB hC).mono ?_
    rintro e w' ⟨rfl,rfl⟩
    obtain ⟨val,Pr',Gs,Os,us,hv,hp⟩:=qwo pre elz hFs hob4 (cap:=cap') (by rw[hw1];omega) (by rw[hlz];exact hge) htake (.inl rfl)
     (fun t hb=>by obtain ⟨k,hk⟩:=hFs t _ hb;exact Nat.lt_irrefl _ (pre.lim k _ hk))
     (fun b' hb1 hb'=>(qbi (cells1.drop (i * 2)) _ _ b' hb').trans ((qbi cells2 _ _ b' hb').trans (hold b' hb1))) (by rw[hsize];omega) (by rw[hsize];omega) (hrest2.1.trans hrest1.1) (hrest2.2.1.trans hrest1.2.1) (hrest2.2.2.trans hrest1.2.2) () (houts _ _ _ _)
    exact ⟨val,Pr',Gs,Os,us,by rw[←hv,hlz],hp⟩
 ·simp at h
end Go.V

namespace Go.V
set_option maxRecDepth 100000
open Go Go.Proofs Go.RowKit
def insA (a:PDen SigI.params):Option (RDen SigI.res×ODen SigI.params):=(insD a.1 a.2.1 a.2.2.1).map fun r=>((r,()),())
def delA (a:PDen SigD.params):Option (RDen SigD.res×ODen SigD.params):=(delD a.1 a.2.1 a.2.2.1).map fun r=>((r,()),())
def qbia (a:PDen SigW.params):Option (RDen SigW.res×ODen SigW.params):=(insW a.1 a.2.1 a.2.2.1).map fun r=>((r,()),())
def cmpA (a:PDen SigC.params):Option (RDen SigC.res×ODen SigC.params):=some ((scmp a.1 a.2.1,()),())
noncomputable def qxo:Den ctx:=fun g a=>
 if h:g=192 then qto (f:=g) (by rw[h];exact sigC) cmpA a else
 if h:g=88 then qto (f:=g) (by rw[h];exact sigI) insA a else
 if h:g=95 then qto (f:=g) (by rw[h];exact sigD) delA a else
 if h:g=93 then qto (f:=g) (by rw[h];exact sigW) qbia a else
 none
theorem qbnz:qxo 192=qto sigC cmpA:=by
 funext a
 simp only[qxo,dif_pos]
theorem qbow:qxo 88=qto sigI insA:=by
 funext a
 simp only[qxo,dif_pos,dif_neg (show ¬ (88:Nat)=192 by decide)]
theorem qbon:qxo 95=qto sigD delA:=by
 funext a
 simp only[qxo,dif_pos,dif_neg (show ¬ (95:Nat)=192 by decide),dif_neg (show ¬ (95:Nat)=88 by decide)]
theorem qbo2:qxo 93=qto sigW qbia:=by
 funext a
 simp only[qxo,dif_pos,dif_neg (show ¬ (93:Nat)=192 by decide),dif_neg (show ¬ (93:Nat)=88 by decide),dif_neg (show ¬ (93:Nat)=95 by decide)]
def qbhf (f:FuncId):Bool:=f.beq 192||f.beq 88||f.beq 95||f.beq 93
theorem qbnv {f:FuncId} (h:qbhf f=true):f=192∨f=88∨f=95∨f=93:=by
 simp only[qbhf,Bool.or_eq_true] at h
 rcases h with ((h1 | h2) | h3) | h4
 ·exact .inl (Nat.eq_of_beq_eq_true h1)
 ·exact .inr (.inl (Nat.eq_of_beq_eq_true h2))
 ·exact .inr (.inr (.inl (Nat.eq_of_beq_eq_true h3)))
 ·exact .inr (.inr (.inr (Nat.eq_of_beq_eq_true h4)))
theorem qbxa:qnj Tryz.prog 88:=⟨Tryz.f88,Tryz.func88,by decide +kernel,rfl⟩
theorem qbxb:qnj Tryz.prog 95:=⟨Tryz.f95,Tryz.func95,by decide +kernel,rfl⟩
theorem qbxl:qnj Tryz.prog 93:=⟨Tryz.f93,Tryz.func93,by decide +kernel,rfl⟩
noncomputable def qjp:Ext where
 den:=qxo
 is:=qbhf
 ok:=fun f hf=>by
  rcases qbnv hf with rfl | rfl | rfl | rfl
  ·exact qbdg sigC qbnz qbxf
  ·exact qbdg sigI qbow qbxd
  ·exact qbdg sigD qbon qbxg
  ·exact qbdg sigW qbo2 qbwf
 call:=fun f a r hf _=>by
  rcases qbnv hf with rfl | rfl | rfl | rfl
  ·exact qbnt
  ·exact qbxa
  ·exact qbxb
  ·exact qbxl
theorem qbxv (a b:ByteArray):qto sigC cmpA (a,b,())=cmpA (a,b,()):=by kernel_rfl
theorem qbwn (n:Nat) (a b:ByteArray):DD qjp (n+1) 192 (a,b,())=cmpA (a,b,()):=
 (qbh1 qjp (g:=192) rfl n (a,b,())).trans ((congrFun qbnz (a,b,())).trans (qbxv a b))
theorem qbxs (xs:List TRow.den) (i:Int) (ys:List TRow.den):qto sigI insA (xs,i,ys,())=insA (xs,i,ys,()):=by kernel_rfl
theorem qbwo (n:Nat) (xs:List TRow.den) (i:Int) (ys:List TRow.den):DD qjp (n+1) 88 (xs,i,ys,())=insA (xs,i,ys,()):=
 (qbh1 qjp (g:=88) rfl n (xs,i,ys,())).trans ((congrFun qbow (xs,i,ys,())).trans (qbxs xs i ys))
theorem qbxy (xs:List TRow.den) (i j:Int):qto sigD delA (xs,i,j,())=delA (xs,i,j,()):=by kernel_rfl
theorem qbw0 (n:Nat) (xs:List TRow.den) (i j:Int):DD qjp (n+1) 95 (xs,i,j,())=delA (xs,i,j,()):=
 (qbh1 qjp (g:=95) rfl n (xs,i,j,())).trans ((congrFun qbon (xs,i,j,())).trans (qbxy xs i j))
theorem qbxu (xs:List TWay.den) (i:Int) (ys:List TWay.den):qto sigW qbia (xs,i,ys,())=qbia (xs,i,ys,()):=by kernel_rfl
theorem qbj6 (n:Nat) (xs:List TWay.den) (i:Int) (ys:List TWay.den):DD qjp (n+1) 93 (xs,i,ys,())=qbia (xs,i,ys,()):=
 (qbh1 qjp (g:=93) rfl n (xs,i,ys,())).trans ((congrFun qbo2 (xs,i,ys,())).trans (qbxu xs i ys))
theorem qbu8 {k:Nat} (h192:Nat.beq k 192=false) (h88:Nat.beq k 88=false) (h95:Nat.beq k 95=false) (h93:Nat.beq k 93=false):qbhf k=false:=by
 simp only[qbhf,Bool.or_eq_false_iff]
 exact ⟨⟨⟨h192,h88⟩,h95⟩,h93⟩
end Go.V

namespace Go.G
set_option maxRecDepth 100000
open Go Go.V Go.Proofs
structure XI (X:Ext):Prop extends XC X where
 ins:∀ n xs i ys,qsc (DD X (n+1)) xs i ys=(insD xs i ys).map fun r=>((r,()),())
 del:∀ n xs i j,qsb (DD X (n+1)) xs i j=(delD xs i j).map fun r=>((r,()),())
 way:∀ n xs i ys,qcm (DD X (n+1)) xs i ys=(insW xs i ys).map fun r=>((r,()),())
theorem qbt0:XI qjp where
 ok:=fun k h=>by
  simp only[Bool.or_eq_false_iff] at h
  obtain ⟨⟨⟨a,b⟩,c⟩,d⟩:=h
  exact qbu8 (by assumption) (by assumption) (by assumption) (by assumption)
 cmp:=qbwn
 ins:=fun n xs i ys=>qbwo n xs i ys
 del:=fun n xs i j=>qbw0 n xs i j
 way:=fun n xs i ys=>qbj6 n xs i ys
end Go.G

namespace Go.G
set_option maxRecDepth 100000
open Go Go.V Go.Proofs
structure InvR (r:Rel):Prop where
 sch:SchSm r.1
 cols:r.1.1.length≤4
 rows:r.2.1.length≤12
 row:∀ x∈r.2.1,x.length≤5
theorem InvR.sm {r:Rel} (h:InvR r):RelSm r:=by
 have hM:=qbo
 obtain ⟨a,b,c,d⟩:=h
 exact ⟨a,by omega,fun x hx=>by have:=d x hx;omega⟩
theorem qbrj {r:Rel} (h:InvR r) {row:Row} (hw:row.length≤5):InvR (q0n r row).1:=by
 unfold q0n
 split
 ·split
  ·exact h
  ·split
   ·exact h
   ·split
    ·exact h
    ·refine ⟨h.sch,h.cols,?_,fun x hx=>?_⟩
     ·have:=qbmn r (qo row r.1.2.1)
      simp only[List.length_append,List.length_take,List.length_drop,List.length_cons,List.length_nil];omega
     ·simp only[List.mem_append,List.mem_singleton] at hx
      rcases hx with (hx | rfl) | hx
      ·exact h.row x (List.mem_of_mem_take hx)
      ·exact hw
      ·exact h.row x (List.mem_of_mem_drop hx)
 ·exact h
theorem qbrs {r:Rel} (h:InvR r) (key:Row):InvR (qzd r key).1:=by
 unfold qzd
 split
 ·split
  ·refine ⟨h.sch,h.cols,?_,fun x hx=>?_⟩
   ·have:=h.rows
    simp only[List.length_append,List.length_take,List.length_drop];omega
   ·simp only[List.mem_append] at hx
    rcases hx with hx | hx
    ·exact h.row x (List.mem_of_mem_take hx)
    ·exact h.row x (List.mem_of_mem_drop hx)
  ·exact h
 ·exact h
theorem qbqe {r:Rel} (h:InvR r) {row:Row} (hw:row.length≤5):InvR (qvu r row).1:=by
 unfold qvu
 split
 ·split
  ·split
   ·exact h
   ·refine ⟨h.sch,h.cols,by simp only[List.length_set];exact h.rows,fun x hx=>?_⟩
    rcases List.mem_or_eq_of_mem_set hx with hx | rfl
    ·exact h.row x hx
    ·exact hw
  ·exact h
 ·exact h
theorem qbwp {s:qbf} (h:DrawnS s):InvR (q5s s).1:=by
 unfold q5s
 split
 ·exact ⟨h.sm,h.hi,Nat.zero_le _,(fun _ h=>nomatch h)⟩
 ·exact ⟨⟨Nat.zero_le _,(fun _ h=>nomatch h),Nat.zero_le _,Nat.zero_le _,(fun _ h=>nomatch h),(fun _ h=>nomatch h)⟩,Nat.zero_le _,Nat.zero_le _,(fun _ h=>nomatch h)⟩
structure InvK (r:Rel):Prop where
 inv:InvR r
 ok:qdv r=true
theorem InvK.sm {r:Rel} (h:InvK r):RelSm r:=h.inv.sm
theorem qbqg {r:Rel} (hok:qdv r=true) (row:Row):qdv (qvu r row).1=true:=by
 unfold qvu
 split
 ·rename_i hc
  cases hk:qnb r (qo row r.1.2.1) with
  | none=>exact hok
  | some j=>
   dsimp only
   split
   ·exact hok
   ·rename_i ho
    exact (qbuo hok hc.2 hk (by simpa using ho)).1
 ·exact hok
theorem qbud {s:qbf} (h:qg9 s=true):qdv (s,[],())=true:=
 (qwi _).2 ⟨h,Nat.zero_le _,(fun _ h=>nomatch h),List.Pairwise.nil⟩
theorem qbn0 (a:Rel):((a.1,a.2.1,()):Rel)=a:=rfl
theorem qbc6 {X:Ext} (hX:XOk X) (N n:Nat) (hN:W+9≤N) (K:Cur→Rel→Rel→Option ((Rel×Unit)×Cur×Unit)) (z:Rel):∀ (m i:Nat) (c:Cur) (r:Rel),i≤9→9 - i<m→InvK r→qco c→
  ∃ (c':Cur) (r':Rel),qco c'∧InvK r'∧qgd (DD X N) n K m (i:Int) c z r=K c' z r'
 | 0,_,_,_,_,h,_,_=>by omega
 | m+1,i,c,r,hi,hf,hr,hc=>by
  have hM:=qbo
  simp only[qgd,qpn,qbn0]
  obtain ⟨x,c1,hx,_,h1,e1⟩:=qdn hX (n:=N) (by omega) hc 9
  obtain ⟨x1,x2⟩:=hx (by omega)
  rw[e1,qe]
  dsimp only
  by_cases h:(i:Int)<x
  ·obtain ⟨row,c2,h2,hl,_,e2⟩:=q4k hX (n:=N) (by omega) h1 r.1 hr.inv.cols
   obtain ⟨y,c3,_,_,h3,e3⟩:=qdn hX (n:=N) (by omega) h2 6
   have hl5:row.length≤5:=by have:=hr.inv.cols;omega
   have hl6:row.length≤M:=by omega
   rw[qj h,e2,qe]
   dsimp only
   rw[e3,qe,qp (by omega)]
   dsimp only
   by_cases k0:y=0
   ·rw[qj k0,qf8 hX (by omega) r.1 row hl6 hr.inv.sch.key,qe]
    dsimp only
    rw[qbpu hX (by omega) r hr.sm,qe]
    exact qbc6 hX N n hN K z m (i+1) c3 _ (by omega) (by omega) ⟨qbrs hr.inv _,qbrm hr.ok _⟩ h3
   ·rw[qn k0]
    by_cases k1:y=1
    ·rw[qj k1,qbna hX (by omega) r hr.sm row hl6,qe]
     exact qbc6 hX N n hN K z m (i+1) c3 _ (by omega) (by omega) ⟨qbqe hr.inv hl5,qbqg hr.ok _⟩ h3
    ·rw[qn k1,qbn5 hX (by omega) r hr.sm row hl6,qe]
     exact qbc6 hX N n hN K z m (i+1) c3 _ (by omega) (by omega) ⟨qbrj hr.inv hl5,qbrw hr.ok _⟩ h3
  ·rw[qn h]
   exact ⟨c1,r,h1,hr,rfl⟩
theorem qbkp {X:Ext} (hX:XOk X) {n:Nat} (hn:W+10≤n) {c:Cur} (hc:qco c):∃ (r:Rel) (c':Cur),InvK r∧qco c'∧qri (DD X n) c=some ((r,()),(c',())):=by
 obtain ⟨n,rfl⟩:∃ k,n=k+1:=⟨n - 1,by omega⟩
 have hW:=qbm
 rw[qba6 hX]
 simp only[qq5,qrh,qoq]
 obtain ⟨s,c1,hs,so,_,_,h1,e1⟩:=q8g hX (n:=n) (by omega) hc
 rw[e1,qe]
 dsimp only
 rw[qbo8 hX (by omega) s hs.sm,qe]
 dsimp only
 obtain ⟨c2,r,h2,hr,e⟩:=qbc6 hX n n (by omega) (fun v0_0 v0_1 v0_2=>qnn (DD X n) n v0_0 v0_1 v0_2) (([],[],[],()),[],()) n 0 c1 (q5s s).1 (by omega) (by omega) ⟨qbwp hs,by unfold q5s;rw[if_pos (qbud so)];exact qbud so⟩ h1
 exact ⟨r,c2,hr,h2,e⟩
theorem qbn8 {X:Ext} (hX:XOk X) {n:Nat} (hn:W+3≤n) {c:Cur} (hc:qco c) (r:Rel) (hr:r.1.1.length≤4):∃ (row:Row) (c':Cur),row.length≤5∧qco c'∧quv (DD X n) c r=some ((row,()),(c',())):=by
 obtain ⟨n,rfl⟩:∃ k,n=k+1:=⟨n - 1,by omega⟩
 have hW:=qbm
 rw[qbdy hX]
 simp only[qut,q3i]
 obtain ⟨row,c1,h1,hl,_,e1⟩:=q4k hX (n:=n) (by omega) hc r.1 hr
 have hl5:row.length≤5:=by omega
 rw[e1,qe]
 dsimp only
 rw[qiw]
 by_cases ha:(r.2.1.length:Int)>0
 ·by_cases hb:(row.length:Int)>0
  ·rw[decide_eq_true ha,decide_eq_true hb,Bool.true_and,br_t]
   obtain ⟨b,c2,h2,e2⟩:=qta hX (n:=n) (by omega) h1 2
   rw[e2,qe]
   dsimp only
   cases b
   ·exact ⟨row,c2,hl5,h2,rfl⟩
   ·rw[br_t]
    obtain ⟨x,c3,hx,_,h3,e3⟩:=qdn hX (n:=n) (by omega) h2 (r.2.1.length:Int)
    obtain ⟨x1,x2⟩:=hx ha
    rw[e3,qe]
    dsimp only
    rw[ixn x1 x2,br_t]
    by_cases h0:((r.2.1.getD x.toNat []).length:Int)>0
    ·have d1:∀ k:Nat,(k:Int)>0→(decide ((0:Nat)≤0)&&decide ((0:Int)<(k:Int)))=true:=fun k hk=>by
      rw[decide_eq_true (by omega),decide_eq_true (by omega)];rfl
     have d2:(decide ((0:Nat)≤0)&&true)=true:=rfl
     rw[qj h0,d1 _ h0,br_t,d2,br_t]
     exact ⟨_,c3,by rw[List.length_set];exact hl5,h3,rfl⟩
    ·rw[qn h0]
     exact ⟨row,c3,hl5,h3,rfl⟩
  ·rw[decide_eq_false hb,Bool.and_false,br_f]
   exact ⟨row,c1,hl5,h1,rfl⟩
 ·rw[decide_eq_false ha,Bool.false_and,br_f]
  exact ⟨row,c1,hl5,h1,rfl⟩
end Go.G

namespace Go.G
set_option maxRecDepth 100000
open Go Go.V Go.Proofs
structure InvD (r:Rel):Prop where
 sch:SchSm r.1
 cols:r.1.1.length≤4
 rows:r.2.1.length≤13
 row:∀ x∈r.2.1,x.length≤5
theorem InvD.sm {r:Rel} (h:InvD r):RelSm r:=by
 have hM:=qbo
 obtain ⟨a,b,c,d⟩:=h
 exact ⟨a,by omega,fun x hx=>by have:=d x hx;omega⟩
theorem qblt {X:Ext} (hX:XOk X) {n:Nat} (hn:W+11≤n) {c:Cur} (hc:qco c):∃ (r:Rel) (c':Cur),InvD r∧qco c'∧qtk (DD X n) c=some ((r,()),(c',())):=by
 obtain ⟨n,rfl⟩:∃ k,n=k+1:=⟨n - 1,by omega⟩
 have hb:=qb0
 rw[qbj2 hX]
 simp only[qyy,q7h,qbn0]
 obtain ⟨r,c1,hr,h1,e1⟩:=qbkp hX (n:=n) (by omega) hc
 obtain ⟨x,c2,_,_,h2,e2⟩:=qdn hX (n:=n) (by omega) h1 10
 obtain ⟨q1,q2,q3,q4⟩:=hr.inv
 rw[e1,qe]
 dsimp only
 rw[e2,qe]
 dsimp only
 by_cases k0:x=0
 ·rw[qj k0]
  obtain ⟨s,c3,hs,h3,e3⟩:=qbt7 hX (n:=n) (by omega) h2
  rw[e3,qe]
  exact ⟨(s,r.2.1,()),c3,⟨hs.sm,hs.hi,by show r.2.1.length≤13;omega,q4⟩,h3,rfl⟩
 ·rw[qn k0]
  by_cases k1:x=1
  ·rw[qj k1]
   obtain ⟨row,c3,h3,hl,_,e3⟩:=q4k hX (n:=n) (by omega) h2 r.1 q2
   rw[e3,qe]
   dsimp only
   rw[qj (by omega)]
   refine ⟨(r.1,r.2.1++[row],()),c3,⟨q1,q2,by simp only[List.length_append,List.length_cons,List.length_nil];omega,fun y hy=>?_⟩,h3,rfl⟩
   rcases List.mem_append.1 hy with hy | hy
   ·exact q4 y hy
   ·rw[List.mem_singleton] at hy;subst hy;omega
  ·rw[qn k1]
   exact ⟨r,c2,⟨q1,q2,by omega,q4⟩,h2,rfl⟩
theorem qbnx {X:Ext} (hX:XOk X) {n:Nat} (hn:W+12≤n) (a:List Int) (ha:a.length≤1048576):∃ (r:Rel) (i:Int),InvD r∧quf (DD X n) a=some ((r,i,()),()):=by
 obtain ⟨n,rfl⟩:∃ k,n=k+1:=⟨n - 1,by omega⟩
 rw[qber hX]
 simp only[qul,q3b]
 obtain ⟨c,hc,e⟩:=q7k hX (n:=n) (by omega) a ha
 obtain ⟨r,c1,hr,h1,e1⟩:=qblt hX (n:=n) (by omega) hc
 obtain ⟨x,c2,_,_,h2,e2⟩:=qdn hX (n:=n) (by omega) h1 4
 rw[e,qe];dsimp only
 rw[e1,qe];dsimp only
 rw[e2,qe]
 exact ⟨r,_,hr,rfl⟩
end Go.G

namespace Go.G
set_option maxRecDepth 100000
open Go Go.V Go.Proofs
abbrev wd:Way:=(ByteArray.empty,ByteArray.empty,())
def wlt (a b:Way):Bool:=bif Op.bytesLess (ByteArray.toList a.1) (ByteArray.toList b.1) then true else bif List.beq (ByteArray.toList a.1) (ByteArray.toList b.1) then Op.bytesLess (ByteArray.toList a.2.1) (ByteArray.toList b.2.1) else false
theorem qmw (a b:Way):qgg (Ty.pair Ty.str (Ty.pair Ty.str Ty.unit)) a b=decide (a=b):=by
 obtain ⟨a1,a2,⟨⟩⟩:=a
 obtain ⟨b1,b2,⟨⟩⟩:=b
 have e:∀ x y:ByteArray,(x.toList == y.toList)=decide (x=y):=fun x y=>qmr
 simp only[qgg,e]
 by_cases h1:a1=b1<;>by_cases h2:a2=b2<;>simp[h1,h2]
theorem q14 {X:Ext} (hX:XOk X) {n:Nat} (hn:1≤n) (a b:Way):qlg (DD X n) a b=some ((wlt a b,()),()):=by
 obtain ⟨n,rfl⟩:∃ k,n=k+1:=⟨n - 1,by omega⟩
 rw[qbk7 hX];rfl
theorem q94 {X:Ext} (hX:XOk X) {n:Nat} (hn:1≤n) (a b:Way):qtt (DD X n) a b=some ((wlt a b,()),()):=by
 obtain ⟨n,rfl⟩:∃ k,n=k+1:=⟨n - 1,by omega⟩
 rw[qblm hX];rfl
def qln (l:List Way) (w:Way):List Way:=match qx (fun i=>!wlt (l.getD i wd) w) 0 l.length with
 | some j=>if l.getD j wd=w then l else l.take j++[w]++l.drop j
 | none=>l++[w]
theorem qbr8 (D:Den ctx) (w x:Way):qbl ctx D (Clo.mk 92 [CapV.rptr (Ty.pair Ty.str (Ty.pair Ty.str Ty.unit)) w]) [CapV.val (Ty.pair Ty.str (Ty.pair Ty.str Ty.unit)) x] Ty.bool=(q6r D x w).bind fun q=>some q.1.1:=by kernel_rfl
theorem qbue {X:Ext} (hX:XOk X) {n:Nat} (hn:W+1≤n) (l:List Way) (hl:l.length≤maxLen) (c:Clo) (P:Nat→Bool)
  (hP:∀ i,i<l.length→qbl ctx (DD X (n - 1)) c [CapV.val (Ty.pair Ty.str (Ty.pair Ty.str Ty.unit)) (l.getD i wd)] Ty.bool=some (P i)) :
  qdx (DD X n) l c=some ((match qx P 0 l.length with | some j=>(j:Int) | none=>-1,()),()):=by
 obtain ⟨n,rfl⟩:∃ k,n=k+1:=⟨n - 1,by omega⟩
 have hd:=qby
 have hW:=qbm
 rw[qjv hX]
 simp only[qdt,qdz,qdl]
 refine Eq.trans (qp9 (L:=fun m i=>q7 (DD X n) n c _ _ m l l.length (i:Int)) (N:=l.length) (P:=P)
  (A:=fun j=>some (((j:Int),()),())) (B:=some ((-1,()),())) (fun m i hi=>?_) (m:=n) (by omega)) ?_
 ·simp only[q7,qdr]
  by_cases h:i<l.length
  ·have hp:qbl ctx (DD X n) c [CapV.val (Ty.pair Ty.str (Ty.pair Ty.str Ty.unit)) (l.getD i wd)] Ty.bool=some (P i):=hP i h
   rw[qj (by exact_mod_cast h),ix h,br_t,Int.toNat_natCast,hp,qe,qp (by omega),if_pos h];rfl
  ·rw[qn (by exact_mod_cast h),if_neg h];rfl
 ·cases qx P 0 l.length<;>rfl
theorem qbjf {X:Ext} (hX:XOk X) {n:Nat} (hn:1≤n) (a:List Way) (ha:a.length≤q0):qex (DD X n) a=some ((a,()),()):=by
 obtain ⟨n,rfl⟩:∃ k,n=k+1:=⟨n - 1,by omega⟩
 rw[qv7 hX]
 simp only[qg7,qlj]
 cases a with
 | nil=>simp[qbtq,both,qb0]
 | cons x a=>simp[qbtq];simpa using ha
theorem qbch {X:Ext} (hX:XOk X) (hI:∀ n xs i ys,qcm (DD X (n+1)) xs i ys=(insW xs i ys).map fun r=>((r,()),())) {n:Nat} (hn:W+3≤n) (l:List Way) (hl:l.length≤M) (w:Way) :
  qu6 (DD X n) l w=some ((qln l w,()),()):=by
 obtain ⟨n,rfl⟩:∃ k,n=k+2:=⟨n - 2,by omega⟩
 have hd:=qby
 have hM:=qbo
 have hb:=qb0
 have hW:=qbm
 rw[qbm8 hX]
 simp only[q2j,q95]
 rw[qbjf hX (by omega) l (by omega),qe,qbue hX (n:=n+1) (by omega) l (by omega) _ (fun i=>!wlt (l.getD i wd) w) (fun i hi=>by
  obtain ⟨n,rfl⟩:∃ k,n=k+1:=⟨n - 1,by omega⟩
  rw[qbr8,show n+1+1 - 1=n+1 from rfl,qbhz hX]
  simp only[qxv,q54]
  rw[q14 hX (by omega),qe]
  rfl),qe]
 dsimp only
 unfold qln
 cases hf:qx (fun i=>!wlt (l.getD i wd) w) 0 l.length with
 | none=>
  dsimp only
  rw[qj (by decide),hI]
  unfold insW
  rw[if_pos ⟨by omega,by omega,by simp,by simp;omega⟩,Int.toNat_natCast,List.take_length,List.drop_length,List.append_nil]
  rfl
 | some j=>
  have hj:=(qc9 hf).2.1
  have hj:j<l.length:=by omega
  dsimp only
  rw[qn (show ¬ (j:Int)<0 by omega),ix hj,br_t,Int.toNat_natCast,qmw,hI]
  by_cases e:l.getD j wd=w
  ·rw[decide_eq_true e,br_t,if_pos e]
  ·rw[decide_eq_false e,br_f,if_neg e]
   unfold insW
   rw[if_pos ⟨by omega,by omega,by simp,by simp;omega⟩,Int.toNat_natCast]
   rfl
theorem qbl0 {X:Ext} (N n:Nat) (l:List Way) (hl:l.length≤M) (w:Way) (p:Nat) (hp:p≤l.length) :
  qiv (DD X N) n l (p:Int) w=some ((if p<l.length∧l.getD p wd=w then l else l.take p++[w]++l.drop p,()),()):=by
 have hd:=qby
 have hM:=qbo
 have hb:=qb0
 have c1:(decide ((0:Nat)≤0)&&decide ((0:Int)≤(p:Int))&&decide ((p:Int)≤(l.length:Int)))=true:=by
  rw[decide_eq_true (by omega),decide_eq_true (by omega),decide_eq_true (by omega)];rfl
 have c2:(decide ((0:Int)≤(p:Int))&&decide ((p:Int)≤(l.length:Int))&&decide ((l.length:Int)≤(l.length:Int)))=true:=by
  rw[decide_eq_true (by omega),decide_eq_true (by omega),decide_eq_true (by omega)];rfl
 have t1:List.drop (Int.toNat 0) (List.take p l)=l.take p:=rfl
 simp only[qiv]
 have d1:decide (0+(l.take p).length≤q0)=true:=decide_eq_true (by rw[List.length_take];omega)
 have d2:decide ((l.take p).length+1≤q0)=true:=decide_eq_true (by rw[List.length_take];omega)
 have d3:decide ((l.take p++[w]).length+(l.drop p).length≤q0)=true:=decide_eq_true (by simp only[List.length_append,List.length_take,List.length_drop,List.length_cons,List.length_nil];omega)
 have d4:decide (0+l.length≤q0)=true:=decide_eq_true (by omega)
 simp only[c1,c2,Int.toNat_natCast,t1,List.take_length,List.nil_append,d1,d2,d3,d4,br_t,qmw]
 by_cases h:p<l.length
 ·rw[qj (by exact_mod_cast h),ix h,br_t]
  by_cases e:l.getD p wd=w
  ·rw[decide_eq_true e,br_t,if_pos ⟨h,e⟩]
  ·rw[decide_eq_false e,br_f,if_neg (fun k=>e k.2)]
 ·rw[qn (by exact_mod_cast h),if_neg (fun k=>h k.1)]
theorem q4o {X:Ext} (hX:XOk X) {n:Nat} (hn:W+2≤n) (l:List Way) (hl:l.length≤M) (w:Way) :
  qqq (DD X n) l w=some ((qln l w,()),()):=by
 obtain ⟨n,rfl⟩:∃ k,n=k+1:=⟨n - 1,by omega⟩
 have hd:=qby
 have hM:=qbo
 have hb:=qb0
 have hW:=qbm
 rw[qbmy hX]
 simp only[q1w,q2c,qya]
 refine Eq.trans (qp9 (L:=fun m i=>qkz (DD X n) n _ m l (i:Int) w) (N:=l.length) (P:=fun i=>!wlt (l.getD i wd) w)
  (A:=fun j=>qiv (DD X n) n l (j:Int) w) (B:=qiv (DD X n) n l (l.length:Int) w) (fun m i hi=>?_) (m:=n) (by omega)) ?_
 ·simp only[qkz,q0l]
  by_cases h:i<l.length
  ·rw[qj (by exact_mod_cast h),ix h,br_t,Int.toNat_natCast,q94 hX (by omega),qe,qp (by omega),if_pos h]
   dsimp only
   cases wlt (l.getD i wd) w<;>rfl
  ·have hin:i=l.length:=by omega
   rw[qn (by exact_mod_cast h),if_neg h,hin]
 ·unfold qln
  cases hf:qx (fun i=>!wlt (l.getD i wd) w) 0 l.length with
  | none=>
   refine (qbl0 n n l hl w _ (Nat.le_refl _)).trans ?_
   rw[if_neg (fun k=>Nat.lt_irrefl _ k.1),List.take_length,List.drop_length,List.append_nil]
  | some j=>
   have hj:=(qc9 hf).2.1
   have hj:j<l.length:=by omega
   refine (qbl0 n n l hl w j (by omega)).trans ?_
   by_cases e:l.getD j wd=w
   ·rw[if_pos ⟨hj,e⟩]
    dsimp only
    rw[if_pos e]
   ·rw[if_neg (fun k=>e k.2)]
    dsimp only
    rw[if_neg e]
theorem qx0 (l:List Way) (w:Way):(qln l w).length≤l.length+1:=by
 unfold qln
 split
 ·split
  ·omega
  ·simp only[List.length_append,List.length_take,List.length_drop,List.length_cons,List.length_nil];omega
 ·simp
end Go.G

namespace Go.G
set_option maxRecDepth 100000
open Go Go.V Go.Proofs
def q9u (s:qbf) (i:Nat) (row:Row):Way:=(qbc7 (qnc (qo row (s.2.2.1.getD i xd).2.1)),qbc7 (qnc (qo row s.2.1)),())
def qzx (s:qbf) (i:Nat):List Row→List Way→List Way
 | [],l=>l
 | row::rows,l=>qzx s i rows (qln l (q9u s i row))
def q39 (r:Rel) (i:Int):List Way:=if (qdv r&&inR i 0 ((r.1.2.2.1.length:Int) - 1))=true then qzx r.1 i.toNat r.2.1 [] else []
theorem qbus {r:Rel} {i:Int} {row:Row} (h1:qj8 r.1 row=true) (h2:inR i 0 ((r.1.2.2.1.length:Int) - 1)=true):q0u r i row=(q9u r.1 i.toNat row,true):=by
 unfold q0u
 rw[h1,h2];rfl
theorem qbtl {X:Ext} (hX:XOk X) {n:Nat} (hn:W+7≤n) (s:qbf) (hs:SchSm s) (i:Nat) (hi:i<s.2.2.1.length) (row:Row) (hw:row.length≤M):q32 (DD X n) s (i:Int) row=some ((q9u s i row,()),()):=by
 obtain ⟨n,rfl⟩:∃ k,n=k+1:=⟨n - 1,by omega⟩
 have hM:=qbo
 have l1:=qf3 row (s.2.2.1.getD i xd).2.1
 have l2:=qf3 row s.2.1
 have l3:=hs.ixc _ (qbx (d:=xd) hi)
 have l4:=hs.key
 rw[qbil hX]
 simp only[q31,q81]
 rw[ix hi,br_t,Int.toNat_natCast,qp8 hX (by omega) row hw _ l3,qe]
 dsimp only
 rw[qpz hX (by omega) _ (by omega),qe,qtp hX (by omega) s row hw l4,qe]
 dsimp only
 rw[qpz hX (by omega) _ (by omega),qe]
 rfl
section
variable {X:Ext} (hX:XOk X) (hI:∀ n xs i ys,qcm (DD X (n+1)) xs i ys=(insW xs i ys).map fun r=>((r,()),()))
include hX hI
theorem qbce (N n:Nat) (hN:W+7≤N) (K:List Way→Option ((List Way×Unit)×Unit)) (r:Rel) (hr:RelSm r) (i:Nat) (hi:i<r.1.2.2.1.length):∀ (m k:Nat) (l:List Way),k≤r.2.1.length→r.2.1.length - k<m→l.length≤k→
  qlh (DD X N) n K m (i:Int) r.2.1 (r.2.1.length:Int) (k:Int) r l=K (qzx r.1 i (r.2.1.drop k) l)
 | 0,_,_,_,h,_=>by omega
 | m+1,k,l,hk,hf,hl=>by
  have hM:=qbo
  have h2:=hr.rows
  simp only[qlh,qy4]
  by_cases h:k<r.2.1.length
  ·rw[qj (by exact_mod_cast h),ix h,br_t,Int.toNat_natCast,qbtl hX (by omega) r.1 hr.sch i hi _ (hr.row _ (qbx h)),qe]
   dsimp only
   have hp:=qx0 l (q9u r.1 i (r.2.1.getD k []))
   rw[qbch hX hI (by omega) l (by omega),qe,qp (by omega),qcp h,qbh h]
   rw[qbh h] at hp
   dsimp only
   exact qbce N n hN K r hr i hi m (k+1) _ (by omega) (by omega) (by omega)
  ·rw[qn (by exact_mod_cast h),qfa h];rfl
end
section
variable {X:Ext} (hX:XC X) (hI:∀ n xs i ys,qcm (DD X (n+1)) xs i ys=(insW xs i ys).map fun r=>((r,()),()))
include hX hI
theorem qbpw {n:Nat} (hn:W+11≤n) (r:Rel) (hr:RelSm r) (i:Int):q2g (DD X n) r i=some ((q39 r i,()),()):=by
 obtain ⟨n,rfl⟩:∃ k,n=k+1:=⟨n - 1,by omega⟩
 have hM:=qbo
 have hW:=qbm
 have h2:=hr.rows
 have h3:=hr.sch.ixs
 rw[qbmt hX.ok]
 simp only[q10,q2u,qxm]
 rw[qbp6 hX (by omega) r hr,qe,quz hX.ok (by omega),qe,qc2 (by omega) (by omega)]
 unfold q39
 dsimp only
 cases qdv r
 ·rfl
 ·cases hin:inR i 0 ((r.1.2.2.1.length:Int) - 1)
  ·rfl
  ·obtain ⟨p1,p2⟩:=q8k hin
   obtain ⟨i,rfl⟩:=Int.eq_ofNat_of_zero_le p1
   rw[Bool.not_true,br_f,br_f]
   have e:=qbce hX.ok hI n n (by omega) (fun v0_0=>qvi (DD X n) n v0_0) r hr i (by omega) n 0 [] (Nat.zero_le _) (by omega) (Nat.le_refl _)
   rw[show ((0:Nat):Int)=0 from rfl] at e
   rw[e];rfl
end
theorem qbca {X:Ext} (hX:XOk X) (N n:Nat) (hN:W+8≤N) (K:List Way→Option ((List Way×Unit)×Unit)) (r:Rel) (hr:RelSm r) (i:Int):∀ (m k:Nat) (l:List Way),k≤r.2.1.length→r.2.1.length - k<m→l.length≤k→
  qk4 (DD X N) n K m i (k:Int) r l=K (if (qdv r&&inR i 0 ((r.1.2.2.1.length:Int) - 1))=true then qzx r.1 i.toNat (r.2.1.drop k) l else l)
 | 0,_,_,_,h,_=>by omega
 | m+1,k,l,hk,hf,hl=>by
  have hM:=qbo
  have h2:=hr.rows
  simp only[qk4,q0d]
  by_cases h:k<r.2.1.length
  ·rw[qj (by exact_mod_cast h),qu1 hX (by omega) r hr,qe]
   dsimp only
   cases hok:qdv r
   ·rfl
   ·have hrow:=((qwi r).1 hok).2.2.1 _ (qbx (d:=[]) h)
    rw[br_t,ix h,br_t,Int.toNat_natCast,qbfn hX (by omega) r hr i _ (hr.row _ (qbx h)),qe,qp (by omega),qcp h]
    dsimp only
    have ih:=fun l' hl'=>qbca hX N n hN K r hr i m (k+1) l' (by omega) (by omega) hl'
    rw[hok] at ih
    cases hin:inR i 0 ((r.1.2.2.1.length:Int) - 1)
    ·have e:q0u r i (r.2.1.getD k [])=((ByteArray.empty,ByteArray.empty,()),false):=by
      unfold q0u
      rw[hin,Bool.and_false,if_neg Bool.noConfusion]
     rw[e,br_f,ih l (by omega),hin,Bool.and_false,if_neg Bool.noConfusion,if_neg Bool.noConfusion]
    ·rw[qbus hrow hin,br_t]
     have hp:=qx0 l (q9u r.1 i.toNat (r.2.1.getD k []))
     dsimp only
     rw[q4o hX (by omega) l (by omega),qe]
     dsimp only
     rw[ih _ (by omega),hin,Bool.and_true,if_pos rfl,if_pos rfl,qbh h];rfl
  ·rw[qn (by exact_mod_cast h),qfa h]
   split<;>rfl
theorem qbpe {X:Ext} (hX:XOk X) {n:Nat} (hn:W+9≤n) (r:Rel) (hr:RelSm r) (i:Int):q2q (DD X n) r i=some ((q39 r i,()),()):=by
 obtain ⟨n,rfl⟩:∃ k,n=k+1:=⟨n - 1,by omega⟩
 have hM:=qbo
 have hW:=qbm
 have h2:=hr.rows
 rw[qbm7 hX]
 simp only[q2d,q19,qx2]
 have e:=qbca hX n n (by omega) (fun v0_0=>qvo (DD X n) n v0_0) r hr i n 0 [] (Nat.zero_le _) (by omega) (Nat.le_refl _)
 rw[show ((0:Nat):Int)=0 from rfl] at e
 rw[e];rfl
theorem qbb8 (s:qbf) (i:Nat):∀ (rows:List Row) (l:List Way),(qzx s i rows l).length≤l.length+rows.length
 | [],l=>Nat.le_refl _
 | row::rows,l=>by
  have h1:=qbb8 s i rows (qln l (q9u s i row))
  have h2:=qx0 l (q9u s i row)
  simp only[qzx,List.length_cons];omega
theorem qbr5 (r:Rel) (i:Int):(q39 r i).length≤r.2.1.length:=by
 unfold q39
 split
 ·have:=qbb8 r.1 i.toNat r.2.1 []
  simpa using this
 ·exact Nat.zero_le _
end Go.G

namespace Go.G
set_option maxRecDepth 100000
open Go Go.V
abbrev WayT:Ty:=.pair .str (.pair .str .unit)
end Go.G

namespace Go.G
set_option maxRecDepth 100000
open Go Go.V Go.Proofs
theorem qbqt (a b:Way):wlt a b=true↔a.1.toList<b.1.toList∨(a.1=b.1∧a.2.1.toList<b.2.1.toList):=by
 have e:(ByteArray.toList a.1 == ByteArray.toList b.1)=decide (a.1=b.1):=qmr
 have e2:List.beq (ByteArray.toList a.1) (ByteArray.toList b.1)=decide (a.1=b.1):=e
 unfold wlt
 rw[qbc5,qbc5,e2]
 by_cases h:a.1.toList<b.1.toList
 ·simp[h]
 ·by_cases h2:a.1=b.1
  ·rw[decide_eq_false h,decide_eq_true h2];simp[h2,List.lt_irrefl]
  ·rw[decide_eq_false h,decide_eq_false h2];simp[h,h2]
theorem qbtx (a b:Way):wlt a b=true∨a=b∨wlt b a=true:=by
 rw[qbqt,qbqt]
 obtain ⟨a1,a2,⟨⟩⟩:=a
 obtain ⟨b1,b2,⟨⟩⟩:=b
 dsimp only
 by_cases h1:a1.toList<b1.toList
 ·exact .inl (.inl h1)
 ·by_cases h2:b1.toList<a1.toList
  ·exact .inr (.inr (.inl h2))
  ·have e1:a1=b1:=qbbr (List.le_antisymm (List.not_lt.1 h2) (List.not_lt.1 h1))
   subst e1
   by_cases h3:a2.toList<b2.toList
   ·exact .inl (.inr ⟨rfl,h3⟩)
   ·by_cases h4:b2.toList<a2.toList
    ·exact .inr (.inr (.inr ⟨rfl,h4⟩))
    ·have e2:a2=b2:=qbbr (List.le_antisymm (List.not_lt.1 h4) (List.not_lt.1 h3))
     exact .inr (.inl (by rw[e2]))
theorem qbwg {α:Type} (l:List α) (j:Nat) (w x:α):x∈l.take j++[w]++l.drop j↔x=w∨x∈l:=by
 have:x∈l↔x∈l.take j∨x∈l.drop j:=by rw[←List.mem_append,List.take_append_drop]
 simp only[List.mem_append,List.mem_singleton,this]
 constructor
 ·rintro ((h | h) | h)
  ·exact .inr (.inl h)
  ·exact .inl h
  ·exact .inr (.inr h)
 ·rintro (h | h | h)
  ·exact .inl (.inr h)
  ·exact .inl (.inl h)
  ·exact .inr h
theorem qbv6 (l:List Way) (w x:Way):x∈qln l w↔x=w∨x∈l:=by
 unfold qln
 cases hf:qx (fun i=>!wlt (l.getD i wd) w) 0 l.length with
 | none=>simp only[List.mem_append,List.mem_singleton];exact Or.comm
 | some j=>
  have hj:j<l.length:=by have:=(qc9 hf).2.1;omega
  dsimp only
  by_cases e:l.getD j wd=w
  ·rw[if_pos e]
   exact ⟨.inr,fun k=>k.elim (fun k=>by rw[k,←e];exact qbx hj) id⟩
  ·rw[if_neg e];exact qbwg l j w x
end Go.G

namespace Go.G
set_option maxRecDepth 100000
open Go Go.V Go.Proofs
def q83 (D:Den ctx) (c:Clo) (P:Way→Bool):Prop:=∀ x:Way,qbl ctx D c [CapV.val WayT x] Ty.bool=some (P x)
theorem qbmg {X:Ext} (hX:XOk X) {n:Nat} (hn:1≤n) (w:Way):q83 (DD X n) (Clo.mk 97 [CapV.rptr WayT w]) fun x=>decide (x=w):=by
 obtain ⟨n,rfl⟩:∃ k,n=k+1:=⟨n - 1,by omega⟩
 intro x
 have h:∀ D:Den ctx,qbl ctx D (Clo.mk 97 [CapV.rptr WayT w]) [CapV.val WayT x] Ty.bool=(q5y D x w).bind fun r=>some r.1.1:=fun D=>by kernel_rfl
 rw[h,qbhg hX]
 simp only[qw2,q6p,Option.bind_some,qmw]
theorem qbfj (D:Den ctx) (n:Nat) (c:Clo) (P:Way→Bool) (hP:q83 D c P) (K0:Int→Option ((Int×Unit)×Unit)) (K1:Option ((Int×Unit)×Unit)):∀ (m i:Nat) (a:List Way),a.length≤maxLen→i≤a.length→a.length - i<m→
  (q7 D n c K0 K1 m a a.length i=K1∧∀ k,i≤k→k<a.length→P (a.getD k wd)=false)∨
  ∃ j,i≤j∧j<a.length∧P (a.getD j wd)=true∧(∀ k,i≤k→k<j→P (a.getD k wd)=false)∧q7 D n c K0 K1 m a a.length i=K0 (j:Int)
 | 0,_,_,_,_,h=>by omega
 | m+1,i,a,hm,hi,hf=>by
  simp only[q7,qdr]
  have hd:=qby
  by_cases h:i<a.length
  ·rw[qj (by exact_mod_cast h),ix h,br_t,Int.toNat_natCast,hP,qe,qp (by omega)]
   cases hp:P (a.getD i (ByteArray.empty,ByteArray.empty,())) with
   | true=>exact .inr ⟨i,by omega,h,hp,fun k h1 h2=>by omega,by rw[br_t]⟩
   | false=>
    rw[br_f]
    rcases qbfj D n c P hP K0 K1 m (i+1) a hm (by omega) (by omega) with ⟨e,hall⟩ | ⟨j,h1,h2,h3,h4,e⟩
    ·refine .inl ⟨e,fun k h1 h2=>?_⟩
     rcases Nat.eq_or_lt_of_le h1 with rfl | h1
     ·exact hp
     ·exact hall k h1 h2
    ·refine .inr ⟨j,by omega,h2,h3,fun k h5 h6=>?_,e⟩
     rcases Nat.eq_or_lt_of_le h5 with rfl | h5
     ·exact hp
     ·exact h4 k h5 h6
  ·rw[qn (by exact_mod_cast h)]
   exact .inl ⟨rfl,fun k h1 h2=>by omega⟩
theorem qbe4 {P:Way→Bool} {a:List Way}:∀ {i:Nat},i≤a.length→(∀ k,k<i→P (a.getD k wd)=false)→(a.take i).filter (fun x=>!P x)=a.take i:=by
 intro i hi h
 rw[List.filter_eq_self]
 intro x hx
 obtain ⟨k,hk,rfl⟩:=List.mem_iff_getElem.1 hx
 rw[List.length_take] at hk
 have:=h k (by omega)
 rw[qbh (by omega)] at this
 rw[List.getElem_take,this]
 rfl
theorem q5f (D:Den ctx) (n:Nat) (c:Clo) (P:Way→Bool) (hP:q83 D c P) (K0:Int→List Way→Option ((List Way×Unit)×Unit)) (a:List Way) (ha:a.length≤maxLen):∀ (m i j:Nat) (l:List Way),l.length=a.length→i<j→j≤a.length→a.length - j<m→
  l.take i=(a.take j).filter (fun x=>!P x)→l.drop j=a.drop j→
  ∃ (i':Nat) (l':List Way),i'<a.length∧l'.length=a.length∧l'.take i'=a.filter (fun x=>!P x)∧qb2 D n c K0 m i j l=K0 (i':Int) l'
 | 0,_,_,_,_,_,_,h,_,_=>by omega
 | m+1,i,j,l,hl,hij,hj,hf,ht,hdr=>by
  simp only[qb2,qe6]
  have hd:=qby
  by_cases h:j<a.length
  ·have hjl:j<l.length:=by omega
   have hx:l[j]=a[j]:=by
    rw[qcp hjl,qcp h] at hdr
    exact (List.cons.inj hdr).1
   have hdr2:l.drop (j+1)=a.drop (j+1):=by
    rw[qcp hjl,qcp h] at hdr
    exact (List.cons.inj hdr).2
   have htk:a.take (j+1)=a.take j++[a[j]]:=by rw[List.take_succ_eq_append_getElem h]
   rw[qj (by exact_mod_cast hjl),ix hjl,br_t,Int.toNat_natCast,hP,qe,qbh hjl,hx,qp (i:=j) (by omega)]
   cases hp:P a[j] with
   | false=>
    rw[Bool.not_false,br_t,ix (i:=i) (by omega),br_t,Int.toNat_natCast,qp (i:=i) (by omega)]
    have e:=q5f D n c P hP K0 a ha m (i+1) (j+1) (l.set i a[j]) (by simpa using hl) (by omega) (by omega) (by omega)
     (by rw[qbup (by omega),ht,htk,List.filter_append];simp[hp]) (by rw[List.drop_set_of_lt (by omega)];exact hdr2)
    exact e
   | true=>
    rw[Bool.not_true,br_f]
    exact q5f D n c P hP K0 a ha m i (j+1) l hl (by omega) (by omega) (by omega) (by rw[ht,htk,List.filter_append];simp[hp]) hdr2
  ·have e:j=a.length:=by omega
   subst e
   rw[qn (by omega)]
   exact ⟨i,l,hij,hl,by rw[ht,List.take_length],rfl⟩
theorem qbpb {X:Ext} (hX:XOk X) {n:Nat} (hn:W+2≤n) (a:List Way) (ha:a.length≤maxLen) (c:Clo) (P:Way→Bool) (hP1:q83 (DD X (n - 1)) c P) (hP2:q83 (DD X (n - 2)) c P) :
  qfg (DD X n) a c=some ((a.filter (fun x=>!P x),()),()):=by
 obtain ⟨n,rfl⟩:∃ k,n=k+2:=⟨n - 2,by omega⟩
 have hW:=qbm
 have hd:=qby
 have hP1':q83 (DD X (n+1)) c P:=hP1
 have hP2':q83 (DD X n) c P:=hP2
 rw[qsa hX]
 simp only[qfk,qff,qe0]
 rw[qjv hX]
 simp only[qdt,qdz,qdl]
 have hI:=qbfj (DD X n) n c P hP2' (fun v=>qda (DD X n) n c v) (qdc (DD X n) n c) n 0 a ha (by omega) (by omega)
 rw[show ((0:Nat):Int)=0 from rfl] at hI
 rcases hI with ⟨e,hall⟩ | ⟨j,_,hj,hp,hall,e⟩
 ·rw[e]
  simp only[qdc,qe,decide_true,br_t]
  have:=qbe4 (P:=P) (a:=a) (Nat.le_refl _) (fun k hk=>hall k (by omega) hk)
  rw[List.take_length] at this
  rw[this]
 ·rw[e]
  simp only[qda,qe]
  rw[qn (by omega),qp (by omega)]
  have hf:=qbe4 (P:=P) (a:=a) (i:=j) (by omega) (fun k hk=>hall k (by omega) hk)
  rw[qbh hj] at hp
  obtain ⟨i',l',h1,h2,h3,e2⟩:=q5f (DD X (n+1)) (n+1) c P hP1' (fun v w=>qc5 (DD X (n+1)) (n+1) c v w) a ha (n+1) j (j+1) a rfl (by omega) (by omega) (by omega)
   (by rw[List.take_succ_eq_append_getElem hj,List.filter_append,hf];simp[hp]) rfl
  rw[e2]
  simp only[qc5]
  have hz:(qir WayT l' i' l'.length).length=l'.length:=by
   simp only[qir,List.length_append,List.length_take,List.length_replicate,List.length_drop];omega
  have hz2:List.take i' (qir WayT l' i' l'.length)=l'.take i':=by
   simp only[qir]
   rw[List.append_assoc,List.take_append_of_le_length (by rw[List.length_take];omega),List.take_take,Nat.min_self]
  have hc1:(decide ((0:Int)≤(i':Int))&&decide ((i':Int)≤(l'.length:Int)))=true:=by
   rw[decide_eq_true (by omega),decide_eq_true (by omega)];rfl
  have hz':(qir (Ty.pair Ty.str (Ty.pair Ty.str Ty.unit)) l' i' l'.length).length=l'.length:=hz
  have hz2':List.take i' (qir (Ty.pair Ty.str (Ty.pair Ty.str Ty.unit)) l' i' l'.length)=l'.take i':=hz2
  rw[hc1,br_t,Int.toNat_natCast,qj (by omega),hz',hc1,br_t,hz2',h3]
def del (a:List Way) (w:Way):List Way:=a.filter fun x=>!decide (x=w)
theorem qbor {X:Ext} (hX:XOk X) {n:Nat} (hn:W+3≤n) (a:List Way) (ha:a.length≤q0) (w:Way):q2n (DD X n) a w=some ((del a w,()),()):=by
 obtain ⟨n,rfl⟩:∃ k,n=k+1:=⟨n - 1,by omega⟩
 have hb:=qb0
 have hd:=qby
 have hW:=qbm
 rw[qbm5 hX]
 simp only[q2i,qbaa]
 rw[qbjf hX (by omega) a ha,qe];dsimp only
 rw[qbpb hX (by omega) a (by omega) _ (fun x=>decide (x=w)) (qbmg hX (by omega) w) (qbmg hX (by omega) w),qe]
 rfl
end Go.G

namespace Go.G
set_option maxRecDepth 100000
open Go Go.V Go.Proofs
theorem qbcq {X:Ext} (hX:XOk X) {n:Nat} (hn:4≤n) {c:Cur} (hc:qco c):∃ (k:ByteArray) (c':Cur),qco c'∧qoe (DD X n) c=some ((k,()),(c',())):=by
 obtain ⟨n,rfl⟩:∃ k,n=k+1:=⟨n - 1,by omega⟩
 rw[qbeq hX]
 simp only[qt0,q3g]
 obtain ⟨y,c1,_,h1,e1⟩:=qbfp hX (n:=n) (by omega) hc (List.set (List.set (List.set (List.set (List.set (List.set (List.set (List.set (List.set (List.set (List.set (List.set (List.replicate 12 ByteArray.empty) 0 (ByteArray.mk #[])) 1 (ByteArray.mk #[UInt8.ofNat 97])) 2 (ByteArray.mk #[UInt8.ofNat 98])) 3 (ByteArray.mk #[UInt8.ofNat 99])) 4 (ByteArray.mk #[UInt8.ofNat 100])) 5 (ByteArray.mk #[UInt8.ofNat 101])) 6 (ByteArray.mk #[UInt8.ofNat 102])) 7 (ByteArray.mk #[UInt8.ofNat 103])) 8 (ByteArray.mk #[UInt8.ofNat 97,UInt8.ofNat 97])) 9 (ByteArray.mk #[UInt8.ofNat 97,UInt8.ofNat 98])) 10 (ByteArray.mk #[UInt8.ofNat 98,UInt8.ofNat 97])) 11 (ByteArray.mk #[UInt8.ofNat 0])) (by simp only[List.length_set,List.length_replicate];decide)
 rw[e1,qe]
 exact ⟨y,c1,h1,rfl⟩
theorem qjq {X:Ext} (hX:XOk X) {n:Nat} (hn:5≤n) {c:Cur} (hc:qco c):∃ (w:Way) (c':Cur),qco c'∧qdp (DD X n) c=some ((w,()),(c',())):=by
 obtain ⟨n,rfl⟩:∃ k,n=k+1:=⟨n - 1,by omega⟩
 rw[qbd3 hX]
 simp only[qt4,q3m]
 obtain ⟨a,c1,h1,e1⟩:=qbcq hX (n:=n) (by omega) hc
 obtain ⟨b,c2,h2,e2⟩:=qbcq hX (n:=n) (by omega) h1
 rw[e1,qe];dsimp only
 rw[e2,qe]
 exact ⟨_,c2,h2,rfl⟩
theorem qbi4 {X:Ext} (hX:XOk X) (N n:Nat) (hN:W+2≤N) (K:Cur→List Way→Option ((List Way×Unit)×Cur×Unit)):∀ (m i:Nat) (c:Cur) (l:List Way),i≤6→6 - i<m→l.length≤i→qco c→
  ∃ (c':Cur) (l':List Way),qco c'∧l'.length≤6∧qgn (DD X N) n K m (i:Int) c l=K c' l'
 | 0,_,_,_,_,h,_,_=>by omega
 | m+1,i,c,l,hi,hf,hl,hc=>by
  have hM:=qbo
  have hW:=qbm
  simp only[qgn,qrg]
  obtain ⟨x,c1,hx,_,h1,e1⟩:=qdn hX (n:=N) (by omega) hc 6
  obtain ⟨x1,x2⟩:=hx (by omega)
  rw[e1,qe]
  dsimp only
  by_cases h:(i:Int)<x
  ·obtain ⟨w,c2,h2,e2⟩:=qjq hX (n:=N) (by omega) h1
   have hp:=qx0 l w
   rw[qj h,e2,qe]
   dsimp only
   rw[q4o hX (by omega) l (by omega),qe,qp (by omega)]
   exact qbi4 hX N n hN K m (i+1) c2 _ (by omega) (by omega) (by show (qln l w).length≤i+1;omega) h2
  ·rw[qn h]
   exact ⟨c1,l,h1,by omega,rfl⟩
theorem qbad {X:Ext} (hX:XOk X) {n:Nat} (hn:W+3≤n) {c:Cur} (hc:qco c):∃ (l:List Way) (c':Cur),l.length≤7∧qco c'∧qnd (DD X n) c=some ((l,()),(c',())):=by
 obtain ⟨n,rfl⟩:∃ k,n=k+1:=⟨n - 1,by omega⟩
 have hW:=qbm
 have hb:=qb0
 rw[qbbl hX]
 simp only[qsv,qs5,qo8]
 obtain ⟨c1,l,h1,hl,e1⟩:=qbi4 hX n n (by omega) (fun v0_0 v0_1=>qj4 (DD X n) n v0_0 v0_1) n 0 c [] (by omega) (by omega) (Nat.le_refl _) hc
 rw[show ((0:Nat):Int)=0 from rfl] at e1
 rw[e1]
 simp only[qj4]
 obtain ⟨b,c2,h2,e2⟩:=qta hX (n:=n) (by omega) h1 8
 rw[e2,qe]
 dsimp only
 cases b
 ·exact ⟨l,c2,by omega,h2,rfl⟩
 ·obtain ⟨w,c3,h3,e3⟩:=qjq hX (n:=n) (by omega) h2
  rw[br_t,e3,qe]
  dsimp only
  rw[qj (by omega)]
  exact ⟨l++[w],c3,by simp;omega,h3,rfl⟩
theorem qbok {X:Ext} (hX:XOk X) {n:Nat} (hn:W+4≤n) (a:List Int) (ha:a.length≤1048576):∃ (l:List Way) (w:Way),l.length≤7∧quh (DD X n) a=some ((l,w,()),()):=by
 obtain ⟨n,rfl⟩:∃ k,n=k+1:=⟨n - 1,by omega⟩
 have hW:=qbm
 rw[qbd7 hX]
 simp only[qug,q3d]
 obtain ⟨c,hc,e⟩:=q7k hX (n:=n) (by omega) a ha
 obtain ⟨l,c1,hl,h1,e1⟩:=qbad hX (n:=n) (by omega) hc
 rw[e,qe];dsimp only
 rw[e1,qe];dsimp only
 by_cases h0:(l.length:Int)>0
 ·obtain ⟨b,c2,h2,e2⟩:=qta hX (n:=n) (by omega) h1 2
  rw[qj h0,e2,qe];dsimp only
  cases b
  ·obtain ⟨w,c3,h3,e3⟩:=qjq hX (n:=n) (by omega) h2
   rw[br_f,e3,qe]
   exact ⟨l,w,hl,rfl⟩
  ·obtain ⟨x,c3,hx,_,h3,e3⟩:=qdn hX (n:=n) (by omega) h2 (l.length:Int)
   obtain ⟨x1,x2⟩:=hx h0
   rw[br_t,e3,qe];dsimp only
   rw[ixn x1 x2,br_t]
   exact ⟨l,_,hl,rfl⟩
 ·obtain ⟨w,c3,h3,e3⟩:=qjq hX (n:=n) (by omega) h1
  rw[qn h0,e3,qe]
  exact ⟨l,w,hl,rfl⟩
theorem qbo1 {X:Ext} (hX:XOk X) {n:Nat} (hn:W+4≤n) (a:List Int) (ha:a.length≤1048576):∃ (l:List Way) (w:Way),l.length≤7∧qus (DD X n) a=some ((l,w,()),()):=by
 obtain ⟨n,rfl⟩:∃ k,n=k+1:=⟨n - 1,by omega⟩
 have hW:=qbm
 rw[qbd9 hX]
 simp only[qt8,q3j]
 obtain ⟨c,hc,e⟩:=q7k hX (n:=n) (by omega) a ha
 obtain ⟨l,c1,hl,h1,e1⟩:=qbad hX (n:=n) (by omega) hc
 rw[e,qe];dsimp only
 rw[e1,qe];dsimp only
 by_cases h0:(l.length:Int)>0
 ·obtain ⟨b,c2,h2,e2⟩:=qta hX (n:=n) (by omega) h1 2
  rw[qj h0,e2,qe];dsimp only
  cases b
  ·obtain ⟨w,c3,h3,e3⟩:=qjq hX (n:=n) (by omega) h2
   rw[br_f,e3,qe]
   exact ⟨l,w,hl,rfl⟩
  ·obtain ⟨x,c3,hx,_,h3,e3⟩:=qdn hX (n:=n) (by omega) h2 (l.length:Int)
   obtain ⟨x1,x2⟩:=hx h0
   rw[br_t,e3,qe];dsimp only
   rw[ixn x1 x2,br_t]
   exact ⟨l,_,hl,rfl⟩
 ·obtain ⟨w,c3,h3,e3⟩:=qjq hX (n:=n) (by omega) h1
  rw[qn h0,e3,qe]
  exact ⟨l,w,hl,rfl⟩
theorem qbmp {X:Ext} (hX:XOk X) {n:Nat} (hn:W+4≤n) (a:List Int) (ha:a.length≤1048576):∃ (x y:Way),qsu (DD X n) a=some ((x,y,()),()):=by
 obtain ⟨n,rfl⟩:∃ k,n=k+1:=⟨n - 1,by omega⟩
 have hW:=qbm
 rw[qbb2 hX]
 simp only[qss,q04]
 obtain ⟨c,hc,e⟩:=q7k hX (n:=n) (by omega) a ha
 obtain ⟨x,c1,h1,e1⟩:=qjq hX (n:=n) (by omega) hc
 obtain ⟨y,c2,h2,e2⟩:=qjq hX (n:=n) (by omega) h1
 rw[e,qe];dsimp only
 rw[e1,qe];dsimp only
 rw[e2,qe]
 exact ⟨x,y,rfl⟩
theorem qbp4 {X:Ext} (hX:XOk X) {n:Nat} (hn:W+13≤n) (a:List Int) (ha:a.length≤1048576):∃ (r:Rel) (i:Int) (row:Row),InvD r∧row.length≤5∧qvx (DD X n) a=some ((r,i,row,()),()):=by
 obtain ⟨n,rfl⟩:∃ k,n=k+1:=⟨n - 1,by omega⟩
 rw[qbgm hX]
 simp only[qwd,q4u]
 obtain ⟨c,hc,e⟩:=q7k hX (n:=n) (by omega) a ha
 obtain ⟨r,c1,hr,h1,e1⟩:=qblt hX (n:=n) (by omega) hc
 obtain ⟨x,c2,_,_,h2,e2⟩:=qdn hX (n:=n) (by omega) h1 4
 obtain ⟨row,c3,hl,h3,e3⟩:=qbn8 hX (n:=n) (by omega) h2 r hr.cols
 rw[e,qe];dsimp only
 rw[e1,qe];dsimp only
 rw[e2,qe];dsimp only
 rw[e3,qe]
 exact ⟨r,_,row,hr,hl,rfl⟩
end Go.G

/- The row FnWays holds: for all bytes the law returns true and the argument reads as before. No condition. -/
namespace Go.G
set_option linter.unusedVariables false
set_option linter.unusedSimpArgs false
set_option maxRecDepth 100000
open Go Go.V Go.Proofs

theorem qbb4 (D:Den ctx) (n:Nat) (K:List Way→Option ((List Way×Unit)×Unit)) (w:Way):∀ (m i:Nat) (a o:List Way),a.length≤1048576→i≤a.length→a.length - i<m→o.length≤i→
  qk5 D n K m a i w o=K (o++del (a.drop i) w)
 | 0,_,_,_,_,_,h,_=>by omega
 | m+1,i,a,o,hm,hi,hf,ho=>by
  simp only[qk5,qzg]
  have hb:=qb0
  by_cases h:i<a.length
  ·have e0:qgg (Ty.pair Ty.str (Ty.pair Ty.str Ty.unit)) a[i] w=decide (a[i]=w):=qmw _ _
   rw[qj (by exact_mod_cast h),ix h,br_t,Int.toNat_natCast,qbh h,qp (by omega),qcp h,e0]
   by_cases e:a[i]=w
   ·rw[decide_eq_true e,Bool.not_true,br_f]
    have:=qbb4 D n K w m (i+1) a o hm (by omega) (by omega) (by omega)
    refine Eq.trans this ?_
    simp[del,e]
   ·rw[decide_eq_false e,Bool.not_false,br_t,br_t,qj (by omega)]
    have:=qbb4 D n K w m (i+1) a (o++[a[i]]) hm (by omega) (by omega) (by simp;omega)
    refine Eq.trans this ?_
    have hd:del (a[i]::a.drop (i+1)) w=a[i]::del (a.drop (i+1)) w:=by
     simp only[del];rw[List.filter_cons_of_pos];simp[e]
    rw[hd,List.append_assoc];rfl
  ·rw[qn (by exact_mod_cast h),qfa h]
   simp[del]
theorem qboq {X:Ext} (hX:XOk X) {n:Nat} (hn:W+1≤n) (a:List Way) (ha:a.length≤1048576) (w:Way):q2y (DD X n) a w=some ((del a w,()),()):=by
 obtain ⟨n,rfl⟩:∃ k,n=k+1:=⟨n - 1,by omega⟩
 have hW:=qbm
 rw[qbm6 hX]
 simp only[q1x,q2e,qxk]
 have:=qbb4 (DD X n) n (fun v=>qpt (DD X n) n v) w n 0 a [] ha (by omega) (by omega) (by simp)
 rw[show ((0:Nat):Int)=0 from rfl] at this
 refine Eq.trans this ?_
 simp only[List.drop_zero,List.nil_append,qpt]
theorem q8t {X:Ext} (hX:XOk X) {n:Nat} (hn:W+1≤n) (a b:List Way) (ha:a.length≤M):qm2 (DD X n) a b=some ((decide (a=b),()),()):=by
 obtain ⟨n,rfl⟩:∃ k,n=k+1:=⟨n - 1,by omega⟩
 have hM:=qbo
 have hW:=qbm
 rw[qbjd hX]
 simp only[qxp,qwt,quc]
 rw[qbdi]
 by_cases hl:a.length=b.length
 ·rw[decide_eq_true hl,Bool.not_true,br_f]
  refine Eq.trans (qik (L:=fun m i=>qjc (DD X n) n _ _ m a b (i:Int)) (N:=a.length) (P:=fun i=>!decide (a.getD i wd=b.getD i wd))
   (A:=some ((false,()),())) (B:=some ((true,()),())) (fun m i hi=>?_) (m:=n) (by omega)) ?_
  ·simp only[qjc,qwg]
   by_cases h:i<a.length
   ·rw[qj (by exact_mod_cast h),ix h,br_t,ix (hl ▸ h),br_t,Int.toNat_natCast,qmw,qp (by omega),if_pos h];rfl
   ·rw[qn (by exact_mod_cast h),if_neg h];rfl
  ·by_cases e:a=b
   ·rw[decide_eq_true e,qbn.2 (fun j _ _=>by rw[e];simp)];rfl
   ·rw[decide_eq_false e]
    have:qt (fun i=>!decide (a.getD i wd=b.getD i wd)) 0 a.length=true:=by
     rw[←Bool.not_eq_false]
     intro hf
     apply e
     apply List.ext_getElem hl
     intro i h1 h2
     have:=qbn.1 hf i (by omega) (by omega)
     rw[qbh h1,qbh h2] at this
     simpa using this
    rw[this];rfl
 ·have:¬ a=b:=fun e=>hl (by rw[e])
  rw[decide_eq_false hl,decide_eq_false this];rfl
theorem qbwb (l:List Way) (v x:Way):x∈del l v↔x∈l∧x≠v:=by
 unfold del
 rw[List.mem_filter];simp
theorem qbwe (l:List Way) (v:Way):(del l v).length≤l.length:=List.length_filter_le _ _
theorem qbtz {X:Ext} (N n:Nat) (K0:Bool→Way→List Way→Way→Way→Option ((Bool×Unit)×Unit)) (K1:Way→List Way→Way→Way→Option ((Bool×Unit)×Unit)) (w:Way) (a:List Way) (v:Way) (d:List Way) (hd:d.length≤M) (hv:v∉d) (x y:Way) :
  ∀ (m j:Nat),d.length - j<m→qkx (DD X N) n K0 K1 m (j:Int) w a v d x y=K1 w a x y
 | 0,_,h=>by omega
 | m+1,j,hf=>by
  have hM:=qbo
  simp only[qkx,qzv]
  by_cases h:j<d.length
  ·have hne:d.getD j wd≠v:=fun e=>hv (by rw[←e];exact qbx h)
   rw[qj (by exact_mod_cast h),ix h,br_t,Int.toNat_natCast,qmw,decide_eq_false hne,br_f,qp (by omega)]
   exact qbtz N n K0 K1 w a v d hd hv x y m (j+1) (by omega)
  ·rw[qn (by exact_mod_cast h)]
theorem qboe {X:Ext} (N n:Nat) (K0:Int→Way→Way→Option ((Bool×Unit)×Unit)) (w:Way) (a:List Way) (ha:a.length≤M) (x y:Way) :
  ∀ (m j:Nat) (c:Int),a.length - j<m→j≤a.length→0≤c→c≤j→∃ c':Int,c≤c'∧((∃ k,j≤k∧k<a.length∧a.getD k wd=w)→1≤c')∧qk3 (DD X N) n K0 m c (j:Int) w a x y=K0 c' x y
 | 0,_,_,h,_,_,_=>by omega
 | m+1,j,c,hf,hj,h0,hc=>by
  have hM:=qbo
  simp only[qk3,qy9]
  by_cases h:j<a.length
  ·rw[qj (by exact_mod_cast h),ix h,br_t,Int.toNat_natCast,qmw,qp (by omega),qc2 (by omega) (by omega)]
   by_cases e:a.getD j wd=w
   ·rw[decide_eq_true e,br_t]
    obtain ⟨c',q1,q2,q3⟩:=qboe N n K0 w a ha x y m (j+1) (c+1) (by omega) (by omega) (by omega) (by omega)
    exact ⟨c',by omega,fun _=>by omega,q3⟩
   ·rw[decide_eq_false e,br_f]
    obtain ⟨c',q1,q2,q3⟩:=qboe N n K0 w a ha x y m (j+1) c (by omega) (by omega) (by omega) (by omega)
    refine ⟨c',q1,?_,q3⟩
    rintro ⟨k,k1,k2,k3⟩
    by_cases hk:k=j
    ·rw[hk] at k3;exact absurd k3 e
    ·exact q2 ⟨k,by omega,k2,k3⟩
  ·rw[qn (by exact_mod_cast h)]
   exact ⟨c,Int.le_refl _,fun ⟨k,k1,k2,_⟩=>by omega,rfl⟩
theorem qbsf (a:List Int):qbab (DD qjp (W+18)) a=some ((true,()),()):=by
 have hI:=qbt0
 have hC:=hI.toXC
 have hX:=hC.ok
 have hd:=qby
 have hb:=qb0
 have hW:=qbm
 have hM:=qbo
 rw[qbne hX]
 simp only[q1s,q15,qxj]
 rw[qbx1 hX (by omega),qe];dsimp only
 by_cases h:(a.length:Int)>1048576
 ·rw[decide_eq_true h,br_t]
 ·rw[decide_eq_false h,br_f]
  obtain ⟨l,w,hl,e1⟩:=qbok hX (n:=W+17) (by omega) a (by omega)
  obtain ⟨l2,v,hl2,e2⟩:=qbo1 hX (n:=W+17) (by omega) a (by omega)
  obtain ⟨x,y,e3⟩:=qbmp hX (n:=W+17) (by omega) a (by omega)
  obtain ⟨r,i,row,hr,hrow,e4⟩:=qbp4 hX (n:=W+17) (by omega) a (by omega)
  obtain ⟨z,k,hz,e5⟩:=qbnx hX (n:=W+17) (by omega) a (by omega)
  have hw:row.length≤M:=by omega
  have hp:=qx0 l w
  have hq:=qbwe l2 v
  have h2:=hz.sm.rows
  have hlen:=qbr5 z k
  have f1:=qbch hX qbj6 (n:=W+17) (by omega) l (by omega) w
  have f2:=qbor hX (n:=W+17) (by omega) l2 (by omega) v
  have f3:=qbp7 hX (n:=W+17) (by omega) r hr.sm i row hw
  have f4:=qbfn hX (n:=W+17) (by omega) r hr.sm i row hw
  have f5:=q4o hX (n:=W+17) (by omega) l (by omega) w
  have f6:=q8t hX (n:=W+17) (by omega) (qln l w) (qln l w) (by omega)
  have f7:=qboq hX (n:=W+17) (by omega) l2 (by omega) v
  have f8:=q8t hX (n:=W+17) (by omega) (del l2 v) (del l2 v) (by omega)
  have f9:=q14 hX (n:=W+17) (by omega) x y
  have f10:=q94 hX (n:=W+17) (by omega) x y
  have f11:=qbpw hC qbj6 (n:=W+17) (by omega) z hz.sm k
  have f12:=qbpe hX (n:=W+17) (by omega) z hz.sm k
  have f13:=q8t hX (n:=W+17) (by omega) (q39 z k) (q39 z k) (by omega)
  have f14:=q14 hX (n:=W+17) (by omega) y x
  simp only[e1,f1,e2,f2,e3,e4,f3,f4,e5,f5,f6,f7,f8,f9,f10,f11,f12,f13,qe,decide_true,Bool.not_true,br_f,qmw,cond_false]
  have g0:=qbtz (X:=qjp) (W+17) (W+17) (fun v0_0 v0_1 v0_2 v0_3 v0_4=>qvk (DD qjp (W+17)) (W+17) v0_0 v0_1 v0_2 v0_3 v0_4) (fun v1_0 v1_1 v1_2 v1_3=>qp0 (DD qjp (W+17)) (W+17) (qrm (DD qjp (W+17)) (W+17)) v1_0 v1_1 v1_2 v1_3) w (qln l w) v (del l2 v) (by omega) (fun hh=>(qbwb _ _ _).1 hh |>.2 rfl) x y (W+17) 0 (by omega)
  rw[show ((0:Nat):Int)=0 from rfl] at g0
  rw[g0]
  simp only[qp0,qrm]
  obtain ⟨c',q1,q2,q3⟩:=qboe (X:=qjp) (W+17) (W+17) (fun v0_0 v0_1 v0_2=>qpa (DD qjp (W+17)) (W+17) v0_0 v0_1 v0_2) w (qln l w) (by omega) x y (W+17) 0 0 (by omega) (by omega) (by omega) (by omega)
  rw[show ((0:Nat):Int)=0 from rfl] at q3
  rw[q3]
  simp only[qpa]
  have hc':1≤c':=q2 (by
   obtain ⟨t,ht,e⟩:=List.mem_iff_getElem.1 ((qbv6 l w w).2 (.inl rfl))
   exact ⟨t,Nat.zero_le _,ht,by rw[qbh ht];exact e⟩)
  rw[qj (show c'≥1 from hc'),f9,qe]
  dsimp only
  cases hxy:wlt x y
  ·rw[br_f,f14,qe]
   dsimp only
   rcases qbtx x y with q | q | q
   ·rw[hxy] at q;cases q
   ·rw[qmw,decide_eq_true q]
    cases wlt y x<;>rfl
   ·rw[q];rfl
  ·rfl
end Go.G
namespace Go.Proofs.YtfafjngknkbngaaGreat
open Go.ChangeShapes Go.WideShapes Go.ChangeAt Go.RowKit Go.V Go.G
set_option maxRecDepth 100000
theorem fnWays_lifted (os:Os) (started:os.Started) (H:Type) (enc:TypeId×Value→H) :
  ReturnsInHanded {} Tryz.checked os 6 .any (Rows.fnWaysSpec.pre6 enc Tryz.prog Tryz.f6 Rows.fnWaysRow.domain false) (Rows.fnWaysSpec.post enc Tryz.prog Tryz.f6 false true false false):=
 qbsm (X:=qjp) (tb:=4) started Tryz.func6 (by kernel_rfl)
  (ChangeSpec.witness6 (enc:=enc) (C:=Tryz.checked) false ⟨#[],Tryz.f6.params.map fun t=>((Tryz.prog.info? t).bind (·.zero)).getD .nilIface,[]⟩ 8 (by kernel_rfl) (by kernel_rfl) (by kernel_rfl) (by kernel_rfl))
  ⟨rfl,rfl,trivial⟩ (by kernel_rfl) (by kernel_rfl) (by kernel_rfl) rfl
  (fun ds h=>by
   match ds,h with
   | [d0],_=>exact ⟨rfl,rfl,rfl⟩)
  (fun a wa=>⟨W+18,((true,()),()),qbsf a.1,fun h Pr Gs us k=>by
   obtain ⟨v,vs,rfl,⟨c,r,rfl⟩,e⟩:=k
   obtain rfl:vs=[]:=e
   simp only[Rep] at r
   subst r
   rfl⟩)
theorem fnWays_holds:Rows.FnWaysSaid:=
 OpenClaim.holds_of_wide 6 Tryz.f6 rfl rfl rfl rfl rfl rfl rfl ⟨rfl,rfl,rfl,rfl,rfl⟩ rfl rfl rfl rfl rfl (by kernel_rfl) Tryz.func6 (by kernel_rfl)
  (of_decide_eq_true (by kernel_rfl)) (by unfold Func.isWrapper;first | (rw[if_pos (by decide +kernel)];kernel_rfl) | (rw[if_neg (by decide +kernel)];exact ⟨rfl,rfl⟩))
  (fun os started H enc _=>fnWays_lifted os started H enc)
#print axioms fnWays_holds
end Go.Proofs.YtfafjngknkbngaaGreat


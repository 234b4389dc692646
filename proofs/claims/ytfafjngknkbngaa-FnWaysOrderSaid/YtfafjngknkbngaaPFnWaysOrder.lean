/- The row FnWaysOrder holds: for all bytes the law returns true and the argument reads as before. No condition. -/
import Derived.Lib.AppendZerosOnto
import Derived.Laws.Externs
import Derived.Lib.Overlaps
import Derived.Test.YtfafjngknkbngaaAPFnWaysOrder2
set_option linter.unusedVariables false
set_option linter.unusedSimpArgs false
set_option linter.unusedSectionVars false
namespace Go.V
set_option maxRecDepth 100000
open Go Go.Proofs Go.RowKit
abbrev TWay:Ty:=.pair .str (.pair .str .unit)
abbrev SigW:Sig:=⟨[.own (.sl TWay) (Mk.top (.sl TWay)),.val (.int .i64),.own (.sl TWay) (Mk.top (.sl TWay))],[.val (.sl TWay) (Mk.top (.sl TWay))]⟩
theorem sigW:ctx.sig 184=SigW:=by kernel_rfl
def insW (xs:List TWay.den) (i:Int) (ys:List TWay.den):Option (List TWay.den):=if 0≤i∧i≤xs.length∧0<ys.length∧xs.length+ys.length≤q9 then some (xs.take i.toNat++ys++xs.drop i.toNat) else none
theorem qtv {P:Program} (w:World) (dT sT ty elem:TypeId) {i:TypeInfo} (b o dLen dCap:Nat) (a:Addr) (sLen sCap:Nat) (cs:List Value)
  (hu:P.underlying dT=some (.slice elem)) (hi:P.info? elem=some i) (hn:Nat.min sLen dLen * i.size=cs.length)
  (hsrc:∀ j v,cs[j]? = some v→w.cell? (a.add j)=some v) (hc:∀ j,j<cs.length→(w.cell? ⟨b,o+j,none⟩).isSome=true) (hf:∀ j,j<cs.length→w.frozen? ⟨b,o+j,none⟩=false) (h1:∀ v∈cs,v.oneCell'=true) :
  (Builtin.copy_ #[dT,sT] ty #[.slice (some ⟨b,o,none⟩) dLen dCap,.slice (some a) sLen sCap]).run P w=.ok (goInt (Nat.min sLen dLen)) (w.setCells b o cs):=by
 have hl:=run_loadCells_list (P:=P) w a cs hsrc
 have hst:=run_storeCells_cells (P:=P) b o cs 0 w (by simpa using hc) (by simpa using hf) h1
 simp[Builtin.copy_,run_underlying hu,Builtin.lenOf,Builtin.firstCells,sizeOf,typeInfo,hi,hn,hl,hst]
theorem El.all {h:Array Obj} {Pr:BS} {e:Ty} {mi:Mk} {xs:List e.den} {cells:List Value} {F:Nat→BS} (el:El h Pr e mi xs cells F) (hw:0<e.width) (hl:cells.length=xs.length * e.width):∀ u∈cells,u.oneCell'=true:=by
 intro u hu
 obtain ⟨k,hk,rfl⟩:=List.getElem_of_mem hu
 have hk2:k / e.width<xs.length:=by rw[Nat.div_lt_iff_lt_mul hw];omega
 have r:=el.rep (k / e.width) hk2
 refine Rep.one _ r _ ?_
 rw[List.mem_iff_getElem?]
 refine ⟨k % e.width,?_⟩
 have e1:k / e.width * e.width+k % e.width=k:=by rw[Nat.mul_comm];exact Nat.div_add_mod k e.width
 rw[List.getElem?_take,if_pos (Nat.mod_lt _ hw),List.getElem?_drop,e1,List.getElem?_eq_getElem]
theorem qbtn:qbet Try.prog SigW 184 fun a=>(insW a.1 a.2.1 a.2.2.1).map fun r=>((r,()),()):=by
 intro a r h w Pr Fs vs pre
 obtain ⟨xs,i,ys,⟨⟩⟩:=a
 change List TWay.den at xs
 change Int at i
 change List TWay.den at ys
 obtain ⟨v1,vs1,rfl,⟨c1,rep1,rfl⟩,v2,vs2,rfl,⟨c2,r2,rfl⟩,v3,vs3,rfl,⟨c3,rep3,rfl⟩,k3⟩:=pre.rel
 obtain rfl:vs3=[]:=k3
 simp only[Rep] at r2
 subst r2
 dsimp only at h
 unfold insW at h
 split at h
 ·rename_i hc
  obtain ⟨h0,hi,hm,hbd⟩:=hc
  replace h0:0≤i:=h0
  replace hi:i≤xs.length:=hi
  replace hm:0<ys.length:=hm
  replace hbd:xs.length+ys.length≤274877906944:=hbd
  simp only[Option.map_some,Option.some.injEq] at h
  subst h
  obtain ⟨i,rfl⟩:=Int.eq_ofNat_of_zero_le h0
  have hi2:i≤xs.length:=by omega
  obtain ⟨ad1,cap1,cells1,F1,rfl,hl1,hlc1,hsrc1,el1,hF1,hown1⟩:=qms (by simp[Mk.top]) (by simp[Mk.top]) rep1
  obtain ⟨ad2,cap2,cells2,F2,rfl,hl2,hlc2,hsrc2,el2,hF2,hown2⟩:=qms (by simp[Mk.top]) (by simp[Mk.top]) rep3
  have hw1:TWay.width=2:=rfl
  replace hlc1:xs.length≤cap1:=hlc1
  replace hlc2:ys.length≤cap2:=hlc2
  have hl1':cells1.length=xs.length * 2:=by rw[hl1,hw1]
  have hl2':cells2.length=ys.length * 2:=by rw[hl2,hw1]
  rcases hown2 0 _ rfl with hc0 | ⟨b2,cs2,rfl,hbF2,hbo2,hcapb2,hFb2,hcells2⟩
  ·exact absurd hc0 (by omega)
  replace hcapb2:cap2 * 2≤cs2.size:=by rw[hw1] at hcapb2;exact hcapb2
  replace hcells2:cells2=sub cs2 0 (ys.length * 2):=by rw[hcells2,hw1]
  have hd12:∀ p q,Dis (F1 p) (F2 q):=fun p q=>(pre.dis 0 2 (by decide)).mono (hF1 p) (hF2 q)
  obtain ⟨FF,elz,hFF⟩:=El.insert el1 el2 i hi2 (by rw[hl1]) (by rw[hl2]) hd12
  rw[hw1] at elz
  have hFs:∀ t b,FF t b→∃ k,Fs k b:=fun t b hb=>by
   rcases hFF t b hb with ⟨c,hc⟩ | ⟨c,hc⟩
   ·exact ⟨0,hF1 c b hc⟩
   ·exact ⟨2,hF2 c b hc⟩
  have hlz:(xs.take i++ys++xs.drop i).length=xs.length+ys.length:=by simp only[List.length_append,List.length_take,List.length_drop];omega
  have hone1:=el1.all (by decide) hl1
  have hone2:=el2.all (by decide) hl2
  have uT:Try.prog.underlying 90=some (.slice 64):=by kernel_rfl
  have u3:Try.prog.underlying 3=some (.int .i64):=by kernel_rfl
  obtain ⟨i0,z0,hi0,hs0,hz0,hzs,hb0⟩:∃ i0 z0,Try.prog.info? 64=some i0∧i0.size=2∧i0.zero=some z0∧z0.cells.size=2∧i0.bytes=32:=by
   have k:((Try.prog.info? 64).map fun x=>(x.size,x.zero.map (·.cells.size),x.bytes))=some (2,some 2,32):=by kernel_rfl
   cases h:Try.prog.info? 64 with
   | none=>rw[h] at k;cases k
   | some x=>
    rw[h] at k
    simp only[Option.map_some,Option.some.injEq,Prod.mk.injEq] at k
    cases hz:x.zero with
    | none=>rw[hz] at k;cases k.2.1
    | some z=>
     rw[hz] at k
     simp only[Option.map_some,Option.some.injEq] at k
     exact ⟨x,z,rfl,k.1,hz,k.2.1,k.2.2⟩
  have hn2:(Builtin.firstCells i0.size ys.length (.slice (some ⟨b2,0,none⟩) ys.length cap2)).run Try.prog w=.ok cells2.toArray w:=by
   rw[hs0]
   exact qg0 hl2' (.inr ⟨b2,0,rfl,by rw[hcells2];exact qbw hbo2.blk (by omega)⟩)
  have ht0:cells1.take (xs.length * 2)=cells1:=List.take_of_length_le (by omega)
  have hd0:cells1.drop (xs.length * 2)=[]:=List.drop_eq_nil_of_le (by omega)
  have houts:∀ (h:Array Obj) (v1 v2 v3:Value),qfv h Pr (fun _=>Nil) 0 SigW.params () [v1,v2,v3]:=fun h v1 v2 v3=>⟨_,_,rfl,_,_,rfl,_,_,rfl,rfl⟩
  by_cases hend:i=xs.length
  ·subst hend
   rw[ht0,hd0,List.append_nil] at elz
   by_cases hroom:xs.length+ys.length≤cap1
   ·rcases hown1 0 _ rfl with hc0 | ⟨b1,cs1,rfl,hbF1,hbo1,hcapb1,hFb1,hcells1⟩
    ·exact absurd hc0 (by omega)
    replace hcapb1:cap1 * 2≤cs1.size:=by rw[hw1] at hcapb1;exact hcapb1
    replace hcells1:cells1=sub cs1 0 (xs.length * 2):=by rw[hcells1,hw1]
    have hfit:xs.length * 2+cells2.length≤cs1.size:=by omega
    have hr:∀ ty,(Builtin.append_ #[90,90] ty #[.slice (some ⟨b1,0,none⟩) xs.length cap1,.slice (some ⟨b2,0,none⟩) ys.length cap2]).run Try.prog w=.ok (.slice (some ⟨b1,0,none⟩) (xs.length+ys.length) cap1) (w.setCells b1 (xs.length * 2) cells2):=fun ty=>
     qk4 (P:=Try.prog) w (ty:=ty) rfl rfl uT uT hi0 hn2 hroom (fun ad e=>by
      simp only[Option.some.injEq] at e
      subst e
      rw[Addr.add_mid,Nat.zero_add,hs0]
      have th:=qeq (w:=w) (o:=xs.length * 2) (n:=cells2.length) hbo1 hfit
      have:=run_storeCells_cells (P:=Try.prog) b1 (xs.length * 2) cells2 0 w (fun t ht=>by simpa using (th t ht).1) (fun t ht=>by simpa using (th t ht).2) hone2
      simpa using this) (fun e=>by simp at e)
    obtain ⟨ty,lo,hi',he,hfz⟩:=hbo1
    obtain ⟨cs3,hcs3,hcs3l⟩:=qdk cells2 (xs.length * 2) w cs1 he hfit
    have hsz3:cs3.size=cs1.size:=by rw[←Array.length_toList,hcs3l,qcn (by simpa using hfit),Array.length_toList]
    have hob3:qbh (w.setCells b1 (xs.length * 2) cells2).heap b1 cs3:=⟨ty,lo,hi',hcs3,fun t ht=>hfz t (by omega)⟩
    have h7:cs1.toList.length=cs1.size:=Array.length_toList
    have htake:cs3.toList.take ((xs.take xs.length++ys++xs.drop xs.length).length * TWay.width)=cells1++cells2:=by
     rw[hw1,hlz,hcs3l,hcells1]
     simp only[repl,sub,List.drop_zero]
     rw[List.take_append_of_le_length (by rw[List.length_append,List.length_take,hl2'];omega),List.take_of_length_le (by rw[List.length_append,List.length_take,hl2'];omega)]
    have hrest:=qck (b:=b1) cells2 (xs.length * 2) w
    have hFBb:∀ t,¬ FF t b1:=fun t hb=>by
     rcases hFF t b1 hb with ⟨c,hc⟩ | ⟨c,hc⟩
     ·exact hFb1 c hc
     ·exact pre.dis 0 2 (by decide) b1 hbF1 (hF2 c b1 hc)
    refine (qbk2 (some ⟨b1,0,none⟩) xs.length cap1 ys.length (some ⟨b2,0,none⟩) cap2 w _ _ hm hlc1 (.inl ⟨b1,rfl⟩) hr).mono ?_
    rintro e w' ⟨rfl,rfl⟩
    obtain ⟨val,Pr',Gs,Os,us,hv,hp⟩:=qvf pre elz hFs hob3 (cap:=cap1) (by rw[hw1];omega) (by rw[hlz];exact hroom) htake (.inr ⟨0,hbF1⟩) hFBb (fun b' _ hb'=>qbj cells2 _ w b' hb') (by rw[qbb];exact Nat.le_refl _) (by rw[qbb];exact pre.lim 0 b1 hbF1) hrest.1 hrest.2.1 hrest.2.2 () (houts _ _ _ _)
    exact ⟨val,Pr',Gs,Os,us,by rw[←hv,hlz],hp⟩
   ·have hg:cap1<xs.length+ys.length:=by omega
    have hn2d:(Builtin.firstCells i0.size ys.length (.slice (some ⟨b2,0,none⟩) ys.length cap2)).run Try.prog w.drew=.ok cells2.toArray w.drew:=by
     rw[hs0]
     exact qg0 hl2' (.inr ⟨b2,0,rfl,qdg (by rw[hcells2];exact qbw hbo2.blk (by omega))⟩)
    have hn1d:(Builtin.firstCells i0.size xs.length (.slice ad1 xs.length cap1)).run Try.prog w.drew=.ok cells1.toArray w.drew:=by
     rw[hs0]
     refine qg0 hl1' ?_
     rcases hsrc1 with ⟨h1,h2⟩ | ⟨b,o,cs,h1,h2,h3,h4⟩
     ·exact .inl ⟨h1,h2⟩
     ·exact .inr ⟨b,o,h1,qdg (h4 ▸ qbw h2 h3)⟩
    have hfit:Builtin.nextslicecap (xs.length+ys.length) cap1 * i0.bytes≤281474976710656:=by
     have:=Room.nextslicecap_le' (need:=xs.length+ys.length) (old:=cap1) hg
     rw[hb0];omega
    have hr:=fun ty=>qwo (P:=Try.prog) w (ats:=#[90,90]) (ty:=ty) rfl rfl uT uT hi0 hz0 hn2d hn1d hg (by omega) hfit
    have hge:=grownCap_ge w (xs.length+ys.length) cap1 64
    generalize grownCap w (xs.length+ys.length) cap1 64=cap' at hr hge
    have hcss:(cells1.toArray++cells2.toArray++Builtin.zeroCells z0.cells (cap' - (xs.length+ys.length))).size=cap' * 2:=by
     simp only[Array.size_append,List.size_toArray,size_zeroCells,hzs,hl1',hl2'];omega
    have htk:(cells1.toArray++cells2.toArray++Builtin.zeroCells z0.cells (cap' - (xs.length+ys.length))).toList.take ((xs.length+ys.length) * 2)=cells1++cells2:=by
     simp only[Array.toList_append,List.append_assoc]
     rw[←List.append_assoc,List.take_append_of_le_length (by rw[List.length_append];omega),List.take_of_length_le (by rw[List.length_append];omega)]
    generalize cells1.toArray++cells2.toArray++Builtin.zeroCells z0.cells (cap' - (xs.length+ys.length))=cs at hr hcss htk
    have h1a:(∃ b,ad1=some ⟨b,0,none⟩)∨(xs.length=0∧cap1=0):=by
     rcases hown1 0 _ rfl with hc0 | ⟨b1,cs1,rfl,_⟩
     ·exact .inr ⟨by omega,hc0⟩
     ·exact .inl ⟨b1,rfl⟩
    refine (qbk2 ad1 xs.length cap1 ys.length (some ⟨b2,0,none⟩) cap2 w _ _ hm hlc1 h1a hr).mono ?_
    rintro e w' ⟨rfl,rfl⟩
    obtain ⟨val,Pr',Gs,Os,us,hv,hp⟩:=qvf (w2:=w.drew.alloc (.cells cs 64)) pre elz hFs (B:=w.heap.size) (cs:=cs) qbh.new (cap:=cap') (by rw[hw1,hcss];exact Nat.le_refl _) (by rw[hlz];exact hge) (by rw[hw1,hlz];exact htk) (.inl rfl)
     (fun t hb=>by obtain ⟨k,hk⟩:=hFs t _ hb;exact Nat.lt_irrefl _ (pre.lim k _ hk)) (fun b' hb1 _=>qhj b' hb1) (by show w.heap.size≤(w.heap.push _).size;simp) (by show w.heap.size<(w.heap.push _).size;simp) rfl rfl rfl () (houts _ _ _ _)
    exact ⟨val,Pr',Gs,Os,us,by rw[←hv,hlz],hp⟩
  ·have hlt:i<xs.length:=by omega
   rcases hown1 0 _ rfl with hc0 | ⟨b1,cs1,rfl,hbF1,hbo1,hcapb1,hFb1,hcells1⟩
   ·exact absurd hc0 (by omega)
   replace hcapb1:cap1 * 2≤cs1.size:=by rw[hw1] at hcapb1;exact hcapb1
   replace hcells1:cells1=sub cs1 0 (xs.length * 2):=by rw[hcells1,hw1]
   have hb12:b2≠b1:=fun e=>pre.dis 0 2 (by decide) b1 hbF1 (e ▸ hbF2)
   have hcd:cells1.drop (i * 2)=sub cs1 (i * 2) ((xs.length - i) * 2):=by
    rw[hcells1]
    simp only[sub,List.drop_zero,List.drop_take]
    congr 1;omega
   have hct:cells1.take (i * 2)=cs1.toList.take (i * 2):=by
    rw[hcells1]
    simp only[sub,List.drop_zero,List.take_take]
    congr 1;omega
   have hdl:(cells1.drop (i * 2)).length=(xs.length - i) * 2:=by rw[List.length_drop,hl1'];omega
   have honed:∀ u∈cells1.drop (i * 2),u.oneCell'=true:=fun u hu=>hone1 u (List.mem_of_mem_drop hu)
   have hFBb:∀ t,¬ FF t b1:=fun t hb=>by
    rcases hFF t b1 hb with ⟨c,hc⟩ | ⟨c,hc⟩
    ·exact hFb1 c hc
    ·exact pre.dis 0 2 (by decide) b1 hbF1 (hF2 c b1 hc)
   by_cases hroom:xs.length+ys.length≤cap1
   ·have hov:∀ lb cb,(callFunc 190 #[.slice (some ⟨b2,0,none⟩) ys.length cap2,.slice (some ⟨b1,(i+ys.length) * 2,none⟩) lb cb]).run Try.prog w=.ok (.value (.bool false)) w:=by
     intro lb cb
     obtain ⟨e2,lo2,hi2,he2,hf2⟩:=hbo2
     obtain ⟨e1,lo1,hi1,he1,hf1⟩:=hbo1
     have hnf:∀ k,k≤cs2.size→w.frozen? ⟨b2,k,none⟩=false:=fun k hk=>by
      have:=hf2 k hk
      simp only[World.frozen?,he2]
      simpa using this
     rw[run_callFunc_extern (P:=Try.prog) (f:=190) (fn:=Try.f190) Try.func190 (by kernel_rfl) (by kernel_rfl) (by kernel_rfl) (e:=Extern.SlicesOverlaps.overlaps #[90,90] #[4]) (by kernel_rfl),
      Lib.run_overlaps_apart w 90 4 64 uT 2 (fun w=>by simp[sizeOf,typeInfo,hi0,hs0]) ⟨b2,0,none⟩ ⟨b1,(i+ys.length) * 2,none⟩ ys.length cap2 lb cb hb12 e2 e1 cs2.size cs1.size (by simp[World.shape?,he2]) (by simp[World.shape?,he1]) (by omega) (hnf 0 (by omega)) (hnf _ (Nat.le_refl _))]
     rfl
    have hfitA:(i+ys.length) * 2+(cells1.drop (i * 2)).length≤cs1.size:=by rw[hdl];omega
    have thA:=qeq (w:=w) (o:=(i+ys.length) * 2) (n:=(cells1.drop (i * 2)).length) hbo1 hfitA
    have hB:∀ ty dc sc,(Builtin.copy_ #[90,90] ty #[.slice (some ⟨b1,(i+ys.length) * 2,none⟩) (xs.length+ys.length - (i+ys.length)) dc,.slice (some ⟨b1,i * 2,none⟩) (xs.length+ys.length - i) sc]).run Try.prog w.drew=.ok (goInt (Nat.min (xs.length+ys.length - i) (xs.length+ys.length - (i+ys.length)))) (w.drew.setCells b1 ((i+ys.length) * 2) (cells1.drop (i * 2))):=fun ty dc sc=>
     qtv w.drew 90 90 ty 64 b1 ((i+ys.length) * 2) _ dc ⟨b1,i * 2,none⟩ _ sc (cells1.drop (i * 2)) uT hi0 (by rw[hdl,hs0];simp only[Nat.min_def];split<;>omega)
      (fun k v hk=>by rw[Addr.add_mid];exact qdg (w:=w) (b:=b1) (o:=i * 2) (cs:=cells1.drop (i * 2)) (by rw[hcd];exact qbw hbo1.blk (by omega)) k v hk) (fun k hk=>(thA k hk).1) (fun k hk=>(thA k hk).2) honed
    obtain ⟨ty,lo,hi',he,hfz⟩:=hbo1
    obtain ⟨cs3,hcs3,hcs3l⟩:=qdk (cells1.drop (i * 2)) ((i+ys.length) * 2) w.drew cs1 he hfitA
    have hsz3:cs3.size=cs1.size:=by rw[←Array.length_toList,hcs3l,qcn (by simpa using hfitA),Array.length_toList]
    have hob3:qbh (w.drew.setCells b1 ((i+ys.length) * 2) (cells1.drop (i * 2))).heap b1 cs3:=⟨ty,lo,hi',hcs3,fun t ht=>hfz t (by omega)⟩
    have hfitB:i * 2+cells2.length≤cs3.size:=by omega
    have thB:=qeq (w:=w.drew.setCells b1 ((i+ys.length) * 2) (cells1.drop (i * 2))) (o:=i * 2) (n:=cells2.length) hob3 hfitB
    have hr2:(w.drew.setCells b1 ((i+ys.length) * 2) (cells1.drop (i * 2))).rangeAt b2 0 cells2:=by
     rw[hcells2]
     exact qbw (Blk.congr hbo2.blk (qbj (cells1.drop (i * 2)) _ w.drew b2 hb12)) (by omega)
    have hC:∀ ty dc,(Builtin.copy_ #[90,90] ty #[.slice (some ⟨b1,i * 2,none⟩) (xs.length+ys.length - i) dc,.slice (some ⟨b2,0,none⟩) ys.length cap2]).run Try.prog (w.drew.setCells b1 ((i+ys.length) * 2) (cells1.drop (i * 2)))=.ok (goInt (Nat.min ys.length (xs.length+ys.length - i))) ((w.drew.setCells b1 ((i+ys.length) * 2) (cells1.drop (i * 2))).setCells b1 (i * 2) cells2):=fun ty dc=>
     qtv _ 90 90 ty 64 b1 (i * 2) _ dc ⟨b2,0,none⟩ _ cap2 cells2 uT hi0 (by rw[hl2',hs0];simp only[Nat.min_def];split<;>omega)
      (fun k v hk=>by rw[Addr.add_mid];exact hr2 k v hk) (fun k hk=>(thB k hk).1) (fun k hk=>(thB k hk).2) hone2
    obtain ⟨cs4,hcs4,hcs4l⟩:=qdk cells2 (i * 2) _ cs3 hcs3 hfitB
    have hsz4:cs4.size=cs3.size:=by rw[←Array.length_toList,hcs4l,qcn (by simpa using hfitB),Array.length_toList]
    have hob4:qbh ((w.drew.setCells b1 ((i+ys.length) * 2) (cells1.drop (i * 2))).setCells b1 (i * 2) cells2).heap b1 cs4:=⟨ty,lo,hi',hcs4,fun t ht=>hfz t (by omega)⟩
    have h7:cs1.toList.length=cs1.size:=Array.length_toList
    have htake:cs4.toList.take ((xs.take i++ys++xs.drop i).length * TWay.width)=cells1.take (i * 2)++cells2++cells1.drop (i * 2):=by
     have e:=qbsw (l:=cs1.toList) (D:=cells1.drop (i * 2)) (C:=cells2) (i:=i * 2) (m:=ys.length * 2) hl2' (by rw[h7,←Nat.add_mul];exact hfitA)
     rw[hw1,hlz,hcs4l,hcs3l,hct,Nat.add_mul i]
     rw[show (xs.length+ys.length) * 2=i * 2+ys.length * 2+(cells1.drop (i * 2)).length by rw[hdl];omega]
     exact e
    have hrest1:=qck (b:=b1) (cells1.drop (i * 2)) ((i+ys.length) * 2) w.drew
    have hrest2:=qck (b:=b1) cells2 (i * 2) (w.drew.setCells b1 ((i+ys.length) * 2) (cells1.drop (i * 2)))
    have hsize:((w.drew.setCells b1 ((i+ys.length) * 2) (cells1.drop (i * 2))).setCells b1 (i * 2) cells2).heap.size=w.heap.size:=by rw[qbb,qbb];rfl
    refine (qbpe b1 xs.length cap1 i ys.length ⟨b2,0,none⟩ cap2 w _ _ _ _ hlt hm hroom (by omega) hov hB hC).mono ?_
    rintro e w' ⟨rfl,rfl⟩
    obtain ⟨val,Pr',Gs,Os,us,hv,hp⟩:=qvf pre elz hFs hob4 (cap:=cap1) (by rw[hw1];omega) (by rw[hlz];exact hroom) htake (.inr ⟨0,hbF1⟩) hFBb
     (fun b' _ hb'=>(qbj cells2 _ _ b' hb').trans (qbj (cells1.drop (i * 2)) _ w.drew b' hb')) (by rw[hsize];exact Nat.le_refl _) (by rw[hsize];exact pre.lim 0 b1 hbF1) (hrest2.1.trans hrest1.1) (hrest2.2.1.trans hrest1.2.1) (hrest2.2.2.trans hrest1.2.2) () (houts _ _ _ _)
    exact ⟨val,Pr',Gs,Os,us,by rw[←hv,hlz],hp⟩
   ·have hg:cap1<xs.length+ys.length:=by omega
    obtain ⟨K,hK⟩:∃ K,K=xs.length+ys.length - i:=⟨_,rfl⟩
    have hKi:i+K=xs.length+ys.length:=by omega
    have hn1d:(Builtin.firstCells i0.size i (.slice (some ⟨b1,0,none⟩) i cap1)).run Try.prog w.drew=.ok (cells1.take (i * 2)).toArray w.drew:=by
     rw[hs0]
     refine qg0 (by rw[List.length_take,hl1'];omega) (.inr ⟨b1,0,rfl,qdg ?_⟩)
     have e:cells1.take (i * 2)=sub cs1 0 (i * 2):=by rw[hct];simp only[sub,List.drop_zero]
     rw[e];exact qbw hbo1.blk (by omega)
    have hfit:Builtin.nextslicecap (i+K) cap1 * i0.bytes≤281474976710656:=by
     have:=Room.nextslicecap_le' (need:=i+K) (old:=cap1) (by omega)
     rw[hb0];omega
    have hr:=fun ty=>Lib.run_append_grow_zeros (P:=Try.prog) w 90 3 ty 64 i0 _ .i64 .i64 uT u3 hi0 hz0 (some ⟨b1,0,none⟩) i cap1 (cells1.take (i * 2)) hn1d K (by omega) (by omega) (by omega) (by omega) (by rw[hb0];omega) hfit
    have hge:=grownCap_ge w (i+K) cap1 64
    generalize grownCap w (i+K) cap1 64=cap' at hr hge
    have hcss:((cells1.take (i * 2)).toArray++Builtin.zeroCells z0.cells K++Builtin.zeroCells z0.cells (cap' - (i+K))).size=cap' * 2:=by
     simp only[Array.size_append,List.size_toArray,size_zeroCells,hzs,List.length_take,hl1'];omega
    have htk:((cells1.take (i * 2)).toArray++Builtin.zeroCells z0.cells K++Builtin.zeroCells z0.cells (cap' - (i+K))).toList.take (i * 2)=cells1.take (i * 2):=by
     simp only[Array.toList_append,List.append_assoc]
     rw[List.take_append_of_le_length (by rw[List.length_take,hl1'];omega),List.take_of_length_le (by rw[List.length_take,hl1'];omega)]
    generalize (cells1.take (i * 2)).toArray++Builtin.zeroCells z0.cells K++Builtin.zeroCells z0.cells (cap' - (i+K))=cs0 at hr hcss htk
    rw[hKi] at hr hge
    have hKI:((K:Nat):Int)=(xs.length:Int)+(ys.length:Int) - (i:Int):=by omega
    rw[hKI] at hr
    have hob0:qbh (w.drew.alloc (.cells cs0 64)).heap w.heap.size cs0:=qbh.new
    have hb1lt:=pre.lim 0 b1 hbF1
    have hb2lt:=pre.lim 2 b2 hbF2
    have hb1B:b1≠w.heap.size:=by omega
    have hb2B:b2≠w.heap.size:=by omega
    have hold:∀ b',b'<w.heap.size→(w.drew.alloc (.cells cs0 64)).heap[b']? = w.heap[b']?:=fun b' hb'=>qhj b' hb'
    have hfitA:i * 2+cells2.length≤cs0.size:=by omega
    have thA:=qeq (w:=w.drew.alloc (.cells cs0 64)) (o:=i * 2) (n:=cells2.length) hob0 hfitA
    have hr2:(w.drew.alloc (.cells cs0 64)).rangeAt b2 0 cells2:=by
     rw[hcells2]
     exact qbw (Blk.congr hbo2.blk (hold b2 hb2lt)) (by omega)
    have hB:∀ ty,(Builtin.copy_ #[90,90] ty #[.slice (some ⟨w.heap.size,i * 2,none⟩) (xs.length+ys.length - i) (cap' - i),.slice (some ⟨b2,0,none⟩) ys.length cap2]).run Try.prog (w.drew.alloc (.cells cs0 64))=.ok (goInt (Nat.min ys.length (xs.length+ys.length - i))) ((w.drew.alloc (.cells cs0 64)).setCells w.heap.size (i * 2) cells2):=fun ty=>
     qtv _ 90 90 ty 64 w.heap.size (i * 2) _ _ ⟨b2,0,none⟩ _ cap2 cells2 uT hi0 (by rw[hl2',hs0];simp only[Nat.min_def];split<;>omega)
      (fun k v hk=>by rw[Addr.add_mid];exact hr2 k v hk) (fun k hk=>(thA k hk).1) (fun k hk=>(thA k hk).2) hone2
    obtain ⟨ty,lo,hi',he,hfz⟩:=hob0
    obtain ⟨cs3,hcs3,hcs3l⟩:=qdk cells2 (i * 2) (w.drew.alloc (.cells cs0 64)) cs0 he hfitA
    have h7:cs0.toList.length=cs0.size:=Array.length_toList
    have hsz3:cs3.size=cs0.size:=by rw[←Array.length_toList,hcs3l,qcn (by simpa using hfitA),Array.length_toList]
    have hob3:qbh ((w.drew.alloc (.cells cs0 64)).setCells w.heap.size (i * 2) cells2).drew.heap w.heap.size cs3:=⟨ty,lo,hi',hcs3,fun t ht=>hfz t (by omega)⟩
    have hfitB:(i+ys.length) * 2+(cells1.drop (i * 2)).length≤cs3.size:=by rw[hdl];omega
    have thB:=qeq (w:=((w.drew.alloc (.cells cs0 64)).setCells w.heap.size (i * 2) cells2).drew) (o:=(i+ys.length) * 2) (n:=(cells1.drop (i * 2)).length) hob3 hfitB
    have hr1:((w.drew.alloc (.cells cs0 64)).setCells w.heap.size (i * 2) cells2).drew.rangeAt b1 (i * 2) (cells1.drop (i * 2)):=by
     rw[hcd]
     exact qdg (qbw (Blk.congr hbo1.blk ((qbj cells2 _ _ b1 hb1B).trans (hold b1 hb1lt))) (by omega))
    have hC:∀ ty,(Builtin.copy_ #[90,90] ty #[.slice (some ⟨w.heap.size,(i+ys.length) * 2,none⟩) (xs.length+ys.length - (i+ys.length)) (cap' - (i+ys.length)),.slice (some ⟨b1,i * 2,none⟩) (xs.length - i) (cap1 - i)]).run Try.prog ((w.drew.alloc (.cells cs0 64)).setCells w.heap.size (i * 2) cells2).drew=.ok (goInt (Nat.min (xs.length - i) (xs.length+ys.length - (i+ys.length)))) (((w.drew.alloc (.cells cs0 64)).setCells w.heap.size (i * 2) cells2).drew.setCells w.heap.size ((i+ys.length) * 2) (cells1.drop (i * 2))):=fun ty=>
     qtv _ 90 90 ty 64 w.heap.size ((i+ys.length) * 2) _ _ ⟨b1,i * 2,none⟩ _ _ (cells1.drop (i * 2)) uT hi0 (by rw[hdl,hs0];simp only[Nat.min_def];split<;>omega)
      (fun k v hk=>by rw[Addr.add_mid];exact hr1 k v hk) (fun k hk=>(thB k hk).1) (fun k hk=>(thB k hk).2) honed
    obtain ⟨cs4,hcs4,hcs4l⟩:=qdk (cells1.drop (i * 2)) ((i+ys.length) * 2) ((w.drew.alloc (.cells cs0 64)).setCells w.heap.size (i * 2) cells2).drew cs3 hcs3 hfitB
    have hsz4:cs4.size=cs3.size:=by rw[←Array.length_toList,hcs4l,qcn (by simpa using hfitB),Array.length_toList]
    have hob4:qbh (((w.drew.alloc (.cells cs0 64)).setCells w.heap.size (i * 2) cells2).drew.setCells w.heap.size ((i+ys.length) * 2) (cells1.drop (i * 2))).heap w.heap.size cs4:=⟨ty,lo,hi',hcs4,fun t ht=>hfz t (by omega)⟩
    have htake:cs4.toList.take ((xs.take i++ys++xs.drop i).length * TWay.width)=cells1.take (i * 2)++cells2++cells1.drop (i * 2):=by
     have e:=qbsx (l:=cs0.toList) (D:=cells1.drop (i * 2)) (C:=cells2) (i:=i * 2) (m:=ys.length * 2) hl2' (by rw[h7];omega)
     rw[hw1,hlz,hcs4l,hcs3l,←htk,Nat.add_mul i]
     rw[show (xs.length+ys.length) * 2=i * 2+ys.length * 2+(cells1.drop (i * 2)).length by rw[hdl];omega]
     exact e
    have hrest1:=qck (b:=w.heap.size) cells2 (i * 2) (w.drew.alloc (.cells cs0 64))
    have hrest2:=qck (b:=w.heap.size) (cells1.drop (i * 2)) ((i+ys.length) * 2) ((w.drew.alloc (.cells cs0 64)).setCells w.heap.size (i * 2) cells2).drew
    have hsize:(((w.drew.alloc (.cells cs0 64)).setCells w.heap.size (i * 2) cells2).drew.setCells w.heap.size ((i+ys.length) * 2) (cells1.drop (i * 2))).heap.size=w.heap.size+1:=by
     rw[qbb]
     show ((w.drew.alloc (.cells cs0 64)).setCells w.heap.size (i * 2) cells2).heap.size=_
     rw[qbb];show (w.heap.push _).size=_;simp
    refine (qbq1 b1 xs.length cap1 i ys.length ⟨b2,0,none⟩ cap2 w.heap.size cap' w _ _ _ _ _ hlt hm hlc1 hg hge (by omega) hr hB hC).mono ?_
    rintro e w' ⟨rfl,rfl⟩
    obtain ⟨val,Pr',Gs,Os,us,hv,hp⟩:=qvf pre elz hFs hob4 (cap:=cap') (by rw[hw1];omega) (by rw[hlz];exact hge) htake (.inl rfl)
     (fun t hb=>by obtain ⟨k,hk⟩:=hFs t _ hb;exact Nat.lt_irrefl _ (pre.lim k _ hk))
     (fun b' hb1 hb'=>(qbj (cells1.drop (i * 2)) _ _ b' hb').trans ((qbj cells2 _ _ b' hb').trans (hold b' hb1))) (by rw[hsize];omega) (by rw[hsize];omega) (hrest2.1.trans hrest1.1) (hrest2.2.1.trans hrest1.2.1) (hrest2.2.2.trans hrest1.2.2) () (houts _ _ _ _)
    exact ⟨val,Pr',Gs,Os,us,by rw[←hv,hlz],hp⟩
 ·simp at h
end Go.V

namespace Go.V
set_option maxRecDepth 100000
open Go Go.Proofs Go.RowKit
def insA (a:PDen SigI.params):Option (RDen SigI.res×ODen SigI.params):=(insD a.1 a.2.1 a.2.2.1).map fun r=>((r,()),())
def delA (a:PDen SigD.params):Option (RDen SigD.res×ODen SigD.params):=(delD a.1 a.2.1 a.2.2.1).map fun r=>((r,()),())
def qbgm (a:PDen SigW.params):Option (RDen SigW.res×ODen SigW.params):=(insW a.1 a.2.1 a.2.2.1).map fun r=>((r,()),())
def cmpA (a:PDen SigC.params):Option (RDen SigC.res×ODen SigC.params):=some ((scmp a.1 a.2.1,()),())
noncomputable def qvl:Den ctx:=fun g a=>
 if h:g=187 then qsm (f:=g) (by rw[h];exact sigC) cmpA a else
 if h:g=132 then qsm (f:=g) (by rw[h];exact sigI) insA a else
 if h:g=139 then qsm (f:=g) (by rw[h];exact sigD) delA a else
 if h:g=184 then qsm (f:=g) (by rw[h];exact sigW) qbgm a else
 none
theorem qbk4:qvl 187=qsm sigC cmpA:=by
 funext a
 simp only[qvl,dif_pos]
theorem qbld:qvl 132=qsm sigI insA:=by
 funext a
 simp only[qvl,dif_pos,dif_neg (show ¬ (132:Nat)=187 by decide)]
theorem qbl3:qvl 139=qsm sigD delA:=by
 funext a
 simp only[qvl,dif_pos,dif_neg (show ¬ (139:Nat)=187 by decide),dif_neg (show ¬ (139:Nat)=132 by decide)]
theorem qbk3:qvl 184=qsm sigW qbgm:=by
 funext a
 simp only[qvl,dif_pos,dif_neg (show ¬ (184:Nat)=187 by decide),dif_neg (show ¬ (184:Nat)=132 by decide),dif_neg (show ¬ (184:Nat)=139 by decide)]
def qbfo (f:FuncId):Bool:=f.beq 187||f.beq 132||f.beq 139||f.beq 184
theorem qbmn {f:FuncId} (h:qbfo f=true):f=187∨f=132∨f=139∨f=184:=by
 simp only[qbfo,Bool.or_eq_true] at h
 rcases h with ((h1 | h2) | h3) | h4
 ·exact .inl (Nat.eq_of_beq_eq_true h1)
 ·exact .inr (.inl (Nat.eq_of_beq_eq_true h2))
 ·exact .inr (.inr (.inl (Nat.eq_of_beq_eq_true h3)))
 ·exact .inr (.inr (.inr (Nat.eq_of_beq_eq_true h4)))
theorem qbut:qm2 Try.prog 132:=⟨Try.f132,Try.func132,by decide +kernel,rfl⟩
theorem qbuz:qm2 Try.prog 139:=⟨Try.f139,Try.func139,by decide +kernel,rfl⟩
theorem qbuq:qm2 Try.prog 184:=⟨Try.f184,Try.func184,by decide +kernel,rfl⟩
noncomputable def qob:Ext where
 den:=qvl
 is:=qbfo
 ok:=fun f hf=>by
  rcases qbmn hf with rfl | rfl | rfl | rfl
  ·exact qba8 sigC qbk4 qbui
  ·exact qba8 sigI qbld qbun
  ·exact qba8 sigD qbl3 qbuh
  ·exact qba8 sigW qbk3 qbtn
 call:=fun f a r hf _=>by
  rcases qbmn hf with rfl | rfl | rfl | rfl
  ·exact qblo
  ·exact qbut
  ·exact qbuz
  ·exact qbuq
theorem qbu3 (a b:ByteArray):qsm sigC cmpA (a,b,())=cmpA (a,b,()):=by kernel_rfl
theorem qbtq (n:Nat) (a b:ByteArray):DD qob (n+1) 187 (a,b,())=cmpA (a,b,()):=
 (qbeu qob (g:=187) rfl n (a,b,())).trans ((congrFun qbk4 (a,b,())).trans (qbu3 a b))
theorem qbu2 (xs:List TRow.den) (i:Int) (ys:List TRow.den):qsm sigI insA (xs,i,ys,())=insA (xs,i,ys,()):=by kernel_rfl
theorem qbt6 (n:Nat) (xs:List TRow.den) (i:Int) (ys:List TRow.den):DD qob (n+1) 132 (xs,i,ys,())=insA (xs,i,ys,()):=
 (qbeu qob (g:=132) rfl n (xs,i,ys,())).trans ((congrFun qbld (xs,i,ys,())).trans (qbu2 xs i ys))
theorem qbvf (xs:List TRow.den) (i j:Int):qsm sigD delA (xs,i,j,())=delA (xs,i,j,()):=by kernel_rfl
theorem qbs9 (n:Nat) (xs:List TRow.den) (i j:Int):DD qob (n+1) 139 (xs,i,j,())=delA (xs,i,j,()):=
 (qbeu qob (g:=139) rfl n (xs,i,j,())).trans ((congrFun qbl3 (xs,i,j,())).trans (qbvf xs i j))
theorem qbu5 (xs:List TWay.den) (i:Int) (ys:List TWay.den):qsm sigW qbgm (xs,i,ys,())=qbgm (xs,i,ys,()):=by kernel_rfl
theorem qbn3 (n:Nat) (xs:List TWay.den) (i:Int) (ys:List TWay.den):DD qob (n+1) 184 (xs,i,ys,())=qbgm (xs,i,ys,()):=
 (qbeu qob (g:=184) rfl n (xs,i,ys,())).trans ((congrFun qbk3 (xs,i,ys,())).trans (qbu5 xs i ys))
theorem qbso {k:Nat} (h187:Nat.beq k 187=false) (h132:Nat.beq k 132=false) (h139:Nat.beq k 139=false) (h184:Nat.beq k 184=false):qbfo k=false:=by
 simp only[qbfo,Bool.or_eq_false_iff]
 exact ⟨⟨⟨h187,h132⟩,h139⟩,h184⟩
end Go.V

namespace Go.G
set_option maxRecDepth 100000
open Go Go.V Go.Proofs
structure XI (X:Ext):Prop extends XC X where
 ins:∀ n xs i ys,qre (DD X (n+1)) xs i ys=(insD xs i ys).map fun r=>((r,()),())
 del:∀ n xs i j,qrf (DD X (n+1)) xs i j=(delD xs i j).map fun r=>((r,()),())
 way:∀ n xs i ys,qcm (DD X (n+1)) xs i ys=(insW xs i ys).map fun r=>((r,()),())
theorem qbqu:XI qob where
 ok:=fun k h=>by
  simp only[Bool.or_eq_false_iff] at h
  obtain ⟨⟨⟨a,b⟩,c⟩,d⟩:=h
  exact qbso (by assumption) (by assumption) (by assumption) (by assumption)
 cmp:=qbtq
 ins:=fun n xs i ys=>qbt6 n xs i ys
 del:=fun n xs i j=>qbs9 n xs i j
 way:=fun n xs i ys=>qbn3 n xs i ys
end Go.G

namespace Go.G
set_option maxRecDepth 100000
open Go Go.V Go.Proofs
structure InvR (r:Rel):Prop where
 sch:SchSm r.1
 cols:r.1.1.length≤4
 rows:r.2.1.length≤12
 row:∀ x∈r.2.1,x.length≤5
theorem InvR.sm {r:Rel} (h:InvR r):RelSm r:=by
 have hM:=qbv
 obtain ⟨a,b,c,d⟩:=h
 exact ⟨a,by omega,fun x hx=>by have:=d x hx;omega⟩
theorem qbok {r:Rel} (h:InvR r) {row:Row} (hw:row.length≤5):InvR (qyr r row).1:=by
 unfold qyr
 split
 ·split
  ·exact h
  ·split
   ·exact h
   ·split
    ·exact h
    ·refine ⟨h.sch,h.cols,?_,fun x hx=>?_⟩
     ·have:=qbjd r (qn row r.1.2.1)
      simp only[List.length_append,List.length_take,List.length_drop,List.length_cons,List.length_nil];omega
     ·simp only[List.mem_append,List.mem_singleton] at hx
      rcases hx with (hx | rfl) | hx
      ·exact h.row x (List.mem_of_mem_take hx)
      ·exact hw
      ·exact h.row x (List.mem_of_mem_drop hx)
 ·exact h
theorem qbox {r:Rel} (h:InvR r) (key:Row):InvR (qys r key).1:=by
 unfold qys
 split
 ·split
  ·refine ⟨h.sch,h.cols,?_,fun x hx=>?_⟩
   ·have:=h.rows
    simp only[List.length_append,List.length_take,List.length_drop];omega
   ·simp only[List.mem_append] at hx
    rcases hx with hx | hx
    ·exact h.row x (List.mem_of_mem_take hx)
    ·exact h.row x (List.mem_of_mem_drop hx)
  ·exact h
 ·exact h
theorem qbnj {r:Rel} (h:InvR r) {row:Row} (hw:row.length≤5):InvR (quv r row).1:=by
 unfold quv
 split
 ·split
  ·split
   ·exact h
   ·refine ⟨h.sch,h.cols,by simp only[List.length_set];exact h.rows,fun x hx=>?_⟩
    rcases List.mem_or_eq_of_mem_set hx with hx | rfl
    ·exact h.row x hx
    ·exact hw
  ·exact h
 ·exact h
theorem qbtr {s:qba} (h:DrawnS s):InvR (q3u s).1:=by
 unfold q3u
 split
 ·exact ⟨h.sm,h.hi,Nat.zero_le _,(fun _ h=>nomatch h)⟩
 ·exact ⟨⟨Nat.zero_le _,(fun _ h=>nomatch h),Nat.zero_le _,Nat.zero_le _,(fun _ h=>nomatch h),(fun _ h=>nomatch h)⟩,Nat.zero_le _,Nat.zero_le _,(fun _ h=>nomatch h)⟩
structure InvK (r:Rel):Prop where
 inv:InvR r
 ok:qdc r=true
theorem InvK.sm {r:Rel} (h:InvK r):RelSm r:=h.inv.sm
theorem qbm5 {r:Rel} (hok:qdc r=true) (row:Row):qdc (quv r row).1=true:=by
 unfold quv
 split
 ·rename_i hc
  cases hk:qmk r (qn row r.1.2.1) with
  | none=>exact hok
  | some j=>
   dsimp only
   split
   ·exact hok
   ·rename_i ho
    exact (qbr3 hok hc.2 hk (by simpa using ho)).1
 ·exact hok
theorem qbrf {s:qba} (h:qex s=true):qdc (s,[],())=true:=
 (qrv _).2 ⟨h,Nat.zero_le _,(fun _ h=>nomatch h),List.Pairwise.nil⟩
theorem qble (a:Rel):((a.1,a.2.1,()):Rel)=a:=rfl
theorem qbay {X:Ext} (hX:XOk X) (N n:Nat) (hN:W+9≤N) (K:Cur→Rel→Rel→Option ((Rel×Unit)×Cur×Unit)) (z:Rel):∀ (m i:Nat) (c:Cur) (r:Rel),i≤9→9 - i<m→InvK r→qds c→
  ∃ (c':Cur) (r':Rel),qds c'∧InvK r'∧qfw (DD X N) n K m (i:Int) c z r=K c' z r'
 | 0,_,_,_,_,h,_,_=>by omega
 | m+1,i,c,r,hi,hf,hr,hc=>by
  have hM:=qbv
  simp only[qfw,qpa,qble]
  obtain ⟨x,c1,hx,_,h1,e1⟩:=qfm hX (n:=N) (by omega) hc 9
  obtain ⟨x1,x2⟩:=hx (by omega)
  rw[e1,qf]
  dsimp only
  by_cases h:(i:Int)<x
  ·obtain ⟨row,c2,h2,hl,_,e2⟩:=q93 hX (n:=N) (by omega) h1 r.1 hr.inv.cols
   obtain ⟨y,c3,_,_,h3,e3⟩:=qfm hX (n:=N) (by omega) h2 6
   have hl5:row.length≤5:=by have:=hr.inv.cols;omega
   have hl6:row.length≤M:=by omega
   rw[qj h,e2,qf]
   dsimp only
   rw[e3,qf,qr (by omega)]
   dsimp only
   by_cases k0:y=0
   ·rw[qj k0,qf2 hX (by omega) r.1 row hl6 hr.inv.sch.key,qf]
    dsimp only
    rw[qbmw hX (by omega) r hr.sm,qf]
    exact qbay hX N n hN K z m (i+1) c3 _ (by omega) (by omega) ⟨qbox hr.inv _,qbo0 hr.ok _⟩ h3
   ·rw[qo k0]
    by_cases k1:y=1
    ·rw[qj k1,qbkn hX (by omega) r hr.sm row hl6,qf]
     exact qbay hX N n hN K z m (i+1) c3 _ (by omega) (by omega) ⟨qbnj hr.inv hl5,qbm5 hr.ok _⟩ h3
    ·rw[qo k1,qbmq hX (by omega) r hr.sm row hl6,qf]
     exact qbay hX N n hN K z m (i+1) c3 _ (by omega) (by omega) ⟨qbok hr.inv hl5,qboo hr.ok _⟩ h3
  ·rw[qo h]
   exact ⟨c1,r,h1,hr,rfl⟩
theorem qbhb {X:Ext} (hX:XOk X) {n:Nat} (hn:W+10≤n) {c:Cur} (hc:qds c):∃ (r:Rel) (c':Cur),InvK r∧qds c'∧qql (DD X n) c=some ((r,()),(c',())):=by
 obtain ⟨n,rfl⟩:∃ k,n=k+1:=⟨n - 1,by omega⟩
 have hW:=qcf
 rw[q8e hX]
 simp only[qqn,qqj,qof]
 obtain ⟨s,c1,hs,so,_,_,h1,e1⟩:=q53 hX (n:=n) (by omega) hc
 rw[e1,qf]
 dsimp only
 rw[qbmc hX (by omega) s hs.sm,qf]
 dsimp only
 obtain ⟨c2,r,h2,hr,e⟩:=qbay hX n n (by omega) (fun v0_0 v0_1 v0_2=>qm4 (DD X n) n v0_0 v0_1 v0_2) (([],[],[],()),[],()) n 0 c1 (q3u s).1 (by omega) (by omega) ⟨qbtr hs,by unfold q3u;rw[if_pos (qbrf so)];exact qbrf so⟩ h1
 exact ⟨r,c2,hr,h2,e⟩
end Go.G

namespace Go.G
set_option maxRecDepth 100000
open Go Go.V Go.Proofs
structure InvD (r:Rel):Prop where
 sch:SchSm r.1
 cols:r.1.1.length≤4
 rows:r.2.1.length≤13
 row:∀ x∈r.2.1,x.length≤5
theorem InvD.sm {r:Rel} (h:InvD r):RelSm r:=by
 have hM:=qbv
 obtain ⟨a,b,c,d⟩:=h
 exact ⟨a,by omega,fun x hx=>by have:=d x hx;omega⟩
theorem qbq9 {X:Ext} (hX:XOk X) {n:Nat} (hn:W+11≤n) {c:Cur} (hc:qds c):∃ (r:Rel) (c':Cur),InvD r∧qds c'∧qxq (DD X n) c=some ((r,()),(c',())):=by
 obtain ⟨n,rfl⟩:∃ k,n=k+1:=⟨n - 1,by omega⟩
 have hb:=qcl
 rw[qbi1 hX]
 simp only[qxp,q56,qble]
 obtain ⟨r,c1,hr,h1,e1⟩:=qbhb hX (n:=n) (by omega) hc
 obtain ⟨x,c2,_,_,h2,e2⟩:=qfm hX (n:=n) (by omega) h1 10
 obtain ⟨q1,q2,q3,q4⟩:=hr.inv
 rw[e1,qf]
 dsimp only
 rw[e2,qf]
 dsimp only
 by_cases k0:x=0
 ·rw[qj k0]
  obtain ⟨s,c3,hs,h3,e3⟩:=qbrc hX (n:=n) (by omega) h2
  rw[e3,qf]
  exact ⟨(s,r.2.1,()),c3,⟨hs.sm,hs.hi,by show r.2.1.length≤13;omega,q4⟩,h3,rfl⟩
 ·rw[qo k0]
  by_cases k1:x=1
  ·rw[qj k1]
   obtain ⟨row,c3,h3,hl,_,e3⟩:=q93 hX (n:=n) (by omega) h2 r.1 q2
   rw[e3,qf]
   dsimp only
   rw[qj (by omega)]
   refine ⟨(r.1,r.2.1++[row],()),c3,⟨q1,q2,by simp only[List.length_append,List.length_cons,List.length_nil];omega,fun y hy=>?_⟩,h3,rfl⟩
   rcases List.mem_append.1 hy with hy | hy
   ·exact q4 y hy
   ·rw[List.mem_singleton] at hy;subst hy;omega
  ·rw[qo k1]
   exact ⟨r,c2,⟨q1,q2,by omega,q4⟩,h2,rfl⟩
theorem qbme {X:Ext} (hX:XOk X) {n:Nat} (hn:W+12≤n) (a:List Int) (ha:a.length≤1048576):∃ (r:Rel) (i:Int),InvD r∧qth (DD X n) a=some ((r,i,()),()):=by
 obtain ⟨n,rfl⟩:∃ k,n=k+1:=⟨n - 1,by omega⟩
 rw[qbcj hX]
 simp only[qta,q1o]
 obtain ⟨c,hc,e⟩:=qbt5 hX (n:=n) (by omega) a ha
 obtain ⟨r,c1,hr,h1,e1⟩:=qbq9 hX (n:=n) (by omega) hc
 obtain ⟨x,c2,_,_,h2,e2⟩:=qfm hX (n:=n) (by omega) h1 4
 rw[e,qf];dsimp only
 rw[e1,qf];dsimp only
 rw[e2,qf]
 exact ⟨r,_,hr,rfl⟩
end Go.G

namespace Go.G
set_option maxRecDepth 100000
open Go Go.V Go.Proofs
abbrev wd:Way:=(ByteArray.empty,ByteArray.empty,())
def wlt (a b:Way):Bool:=bif Op.bytesLess (ByteArray.toList a.1) (ByteArray.toList b.1) then true else bif List.beq (ByteArray.toList a.1) (ByteArray.toList b.1) then Op.bytesLess (ByteArray.toList a.2.1) (ByteArray.toList b.2.1) else false
theorem q9g (a b:Way):qkl (Ty.pair Ty.str (Ty.pair Ty.str Ty.unit)) a b=decide (a=b):=by
 obtain ⟨a1,a2,⟨⟩⟩:=a
 obtain ⟨b1,b2,⟨⟩⟩:=b
 have e:∀ x y:ByteArray,(x.toList == y.toList)=decide (x=y):=fun x y=>qmw
 simp only[qkl,e]
 by_cases h1:a1=b1<;>by_cases h2:a2=b2<;>simp[h1,h2]
theorem q8b {X:Ext} (hX:XOk X) {n:Nat} (hn:1≤n) (a b:Way):qso (DD X n) a b=some ((wlt a b,()),()):=by
 obtain ⟨n,rfl⟩:∃ k,n=k+1:=⟨n - 1,by omega⟩
 rw[qbhg hX];rfl
theorem qbkb {X:Ext} (hX:XOk X) {n:Nat} (hn:1≤n) (a b:Way):qx8 (DD X n) a b=some ((wlt a b,()),()):=by
 obtain ⟨n,rfl⟩:∃ k,n=k+1:=⟨n - 1,by omega⟩
 rw[qbhy hX];rfl
def qmx (l:List Way) (w:Way):List Way:=match qw (fun i=>!wlt (l.getD i wd) w) 0 l.length with
 | some j=>if l.getD j wd=w then l else l.take j++[w]++l.drop j
 | none=>l++[w]
theorem qbpj (D:Den ctx) (w x:Way):qbp ctx D (Clo.mk 183 [CapV.rptr (Ty.pair Ty.str (Ty.pair Ty.str Ty.unit)) w]) [CapV.val (Ty.pair Ty.str (Ty.pair Ty.str Ty.unit)) x] Ty.bool=(q37 D x w).bind fun q=>some q.1.1:=by kernel_rfl
theorem qbr1 {X:Ext} (hX:XOk X) {n:Nat} (hn:W+1≤n) (l:List Way) (hl:l.length≤maxLen) (c:Clo) (P:Nat→Bool)
  (hP:∀ i,i<l.length→qbp ctx (DD X (n - 1)) c [CapV.val (Ty.pair Ty.str (Ty.pair Ty.str Ty.unit)) (l.getD i wd)] Ty.bool=some (P i)) :
  qfi (DD X n) l c=some ((match qw P 0 l.length with | some j=>(j:Int) | none=>-1,()),()):=by
 obtain ⟨n,rfl⟩:∃ k,n=k+1:=⟨n - 1,by omega⟩
 have hd:=qch
 have hW:=qcf
 rw[qrl hX]
 simp only[qfs,qfj,qeu]
 refine Eq.trans (qpn (L:=fun m i=>qcb (DD X n) n c _ _ m l l.length (i:Int)) (N:=l.length) (P:=P)
  (A:=fun j=>some (((j:Int),()),())) (B:=some ((-1,()),())) (fun m i hi=>?_) (m:=n) (by omega)) ?_
 ·simp only[qcb,qe6]
  by_cases h:i<l.length
  ·have hp:qbp ctx (DD X n) c [CapV.val (Ty.pair Ty.str (Ty.pair Ty.str Ty.unit)) (l.getD i wd)] Ty.bool=some (P i):=hP i h
   rw[qj (by exact_mod_cast h),ix h,br_t,Int.toNat_natCast,hp,qf,qr (by omega),if_pos h];rfl
  ·rw[qo (by exact_mod_cast h),if_neg h];rfl
 ·cases qw P 0 l.length<;>rfl
theorem qbo9 {X:Ext} (hX:XOk X) {n:Nat} (hn:1≤n) (a:List Way) (ha:a.length≤q9):qgv (DD X n) a=some ((a,()),()):=by
 obtain ⟨n,rfl⟩:∃ k,n=k+1:=⟨n - 1,by omega⟩
 rw[qt9 hX]
 simp only[qgx,qk5]
 cases a with
 | nil=>simp[qbra,both,qcl]
 | cons x a=>simp[qbra];simpa using ha
theorem qbmo {X:Ext} (hX:XOk X) (hI:∀ n xs i ys,qcm (DD X (n+1)) xs i ys=(insW xs i ys).map fun r=>((r,()),())) {n:Nat} (hn:W+3≤n) (l:List Way) (hl:l.length≤M) (w:Way) :
  q03 (DD X n) l w=some ((qmx l w,()),()):=by
 obtain ⟨n,rfl⟩:∃ k,n=k+2:=⟨n - 2,by omega⟩
 have hd:=qch
 have hM:=qbv
 have hb:=qcl
 have hW:=qcf
 rw[qbj4 hX]
 simp only[q1d,q8d]
 rw[qbo9 hX (by omega) l (by omega),qf,qbr1 hX (n:=n+1) (by omega) l (by omega) _ (fun i=>!wlt (l.getD i wd) w) (fun i hi=>by
  obtain ⟨n,rfl⟩:∃ k,n=k+1:=⟨n - 1,by omega⟩
  rw[qbpj,show n+1+1 - 1=n+1 from rfl,qbfa hX]
  simp only[qv7,q4n]
  rw[q8b hX (by omega),qf]
  rfl),qf]
 dsimp only
 unfold qmx
 cases hf:qw (fun i=>!wlt (l.getD i wd) w) 0 l.length with
 | none=>
  dsimp only
  rw[qj (by decide),hI]
  unfold insW
  rw[if_pos ⟨by omega,by omega,by simp,by simp;omega⟩,Int.toNat_natCast,List.take_length,List.drop_length,List.append_nil]
  rfl
 | some j=>
  have hj:=(qcp hf).2.1
  have hj:j<l.length:=by omega
  dsimp only
  rw[qo (show ¬ (j:Int)<0 by omega),ix hj,br_t,Int.toNat_natCast,q9g,hI]
  by_cases e:l.getD j wd=w
  ·rw[decide_eq_true e,br_t,if_pos e]
  ·rw[decide_eq_false e,br_f,if_neg e]
   unfold insW
   rw[if_pos ⟨by omega,by omega,by simp,by simp;omega⟩,Int.toNat_natCast]
   rfl
theorem qbjt {X:Ext} (N n:Nat) (l:List Way) (hl:l.length≤M) (w:Way) (p:Nat) (hp:p≤l.length) :
  qiy (DD X N) n l (p:Int) w=some ((if p<l.length∧l.getD p wd=w then l else l.take p++[w]++l.drop p,()),()):=by
 have hd:=qch
 have hM:=qbv
 have hb:=qcl
 have c1:(decide ((0:Nat)≤0)&&decide ((0:Int)≤(p:Int))&&decide ((p:Int)≤(l.length:Int)))=true:=by
  rw[decide_eq_true (by omega),decide_eq_true (by omega),decide_eq_true (by omega)];rfl
 have c2:(decide ((0:Int)≤(p:Int))&&decide ((p:Int)≤(l.length:Int))&&decide ((l.length:Int)≤(l.length:Int)))=true:=by
  rw[decide_eq_true (by omega),decide_eq_true (by omega),decide_eq_true (by omega)];rfl
 have t1:List.drop (Int.toNat 0) (List.take p l)=l.take p:=rfl
 simp only[qiy]
 have d1:decide (0+(l.take p).length≤q9)=true:=decide_eq_true (by rw[List.length_take];omega)
 have d2:decide ((l.take p).length+1≤q9)=true:=decide_eq_true (by rw[List.length_take];omega)
 have d3:decide ((l.take p++[w]).length+(l.drop p).length≤q9)=true:=decide_eq_true (by simp only[List.length_append,List.length_take,List.length_drop,List.length_cons,List.length_nil];omega)
 have d4:decide (0+l.length≤q9)=true:=decide_eq_true (by omega)
 simp only[c1,c2,Int.toNat_natCast,t1,List.take_length,List.nil_append,d1,d2,d3,d4,br_t,q9g]
 by_cases h:p<l.length
 ·rw[qj (by exact_mod_cast h),ix h,br_t]
  by_cases e:l.getD p wd=w
  ·rw[decide_eq_true e,br_t,if_pos ⟨h,e⟩]
  ·rw[decide_eq_false e,br_f,if_neg (fun k=>e k.2)]
 ·rw[qo (by exact_mod_cast h),if_neg (fun k=>h k.1)]
theorem qblq {X:Ext} (hX:XOk X) {n:Nat} (hn:W+2≤n) (l:List Way) (hl:l.length≤M) (w:Way) :
  q0f (DD X n) l w=some ((qmx l w,()),()):=by
 obtain ⟨n,rfl⟩:∃ k,n=k+1:=⟨n - 1,by omega⟩
 have hd:=qch
 have hM:=qbv
 have hb:=qcl
 have hW:=qcf
 rw[qbkj hX]
 simp only[q08,q07,qw0]
 refine Eq.trans (qpn (L:=fun m i=>qkr (DD X n) n _ m l (i:Int) w) (N:=l.length) (P:=fun i=>!wlt (l.getD i wd) w)
  (A:=fun j=>qiy (DD X n) n l (j:Int) w) (B:=qiy (DD X n) n l (l.length:Int) w) (fun m i hi=>?_) (m:=n) (by omega)) ?_
 ·simp only[qkr,qyl]
  by_cases h:i<l.length
  ·rw[qj (by exact_mod_cast h),ix h,br_t,Int.toNat_natCast,qbkb hX (by omega),qf,qr (by omega),if_pos h]
   dsimp only
   cases wlt (l.getD i wd) w<;>rfl
  ·have hin:i=l.length:=by omega
   rw[qo (by exact_mod_cast h),if_neg h,hin]
 ·unfold qmx
  cases hf:qw (fun i=>!wlt (l.getD i wd) w) 0 l.length with
  | none=>
   refine (qbjt n n l hl w _ (Nat.le_refl _)).trans ?_
   rw[if_neg (fun k=>Nat.lt_irrefl _ k.1),List.take_length,List.drop_length,List.append_nil]
  | some j=>
   have hj:=(qcp hf).2.1
   have hj:j<l.length:=by omega
   refine (qbjt n n l hl w j (by omega)).trans ?_
   by_cases e:l.getD j wd=w
   ·rw[if_pos ⟨hj,e⟩]
    dsimp only
    rw[if_pos e]
   ·rw[if_neg (fun k=>e k.2)]
    dsimp only
    rw[if_neg e]
theorem q7i (l:List Way) (w:Way):(qmx l w).length≤l.length+1:=by
 unfold qmx
 split
 ·split
  ·omega
  ·simp only[List.length_append,List.length_take,List.length_drop,List.length_cons,List.length_nil];omega
 ·simp
end Go.G

namespace Go.G
set_option maxRecDepth 100000
open Go Go.V Go.Proofs
def qrd (s:qba) (i:Nat) (row:Row):Way:=(qsu (qhl (qn row (s.2.2.1.getD i xd).2.1)),qsu (qhl (qn row s.2.1)),())
def qo6 (s:qba) (i:Nat):List Row→List Way→List Way
 | [],l=>l
 | row::rows,l=>qo6 s i rows (qmx l (qrd s i row))
def qij (r:Rel) (i:Int):List Way:=if (qdc r&&inR i 0 ((r.1.2.2.1.length:Int) - 1))=true then qo6 r.1 i.toNat r.2.1 [] else []
theorem qbro {r:Rel} {i:Int} {row:Row} (h1:qib r.1 row=true) (h2:inR i 0 ((r.1.2.2.1.length:Int) - 1)=true):q7d r i row=(qrd r.1 i.toNat row,true):=by
 unfold q7d
 rw[h1,h2];rfl
theorem qbqx {X:Ext} (hX:XOk X) {n:Nat} (hn:W+7≤n) (s:qba) (hs:SchSm s) (i:Nat) (hi:i<s.2.2.1.length) (row:Row) (hw:row.length≤M):q7j (DD X n) s (i:Int) row=some ((qrd s i row,()),()):=by
 obtain ⟨n,rfl⟩:∃ k,n=k+1:=⟨n - 1,by omega⟩
 have hM:=qbv
 have l1:=qft row (s.2.2.1.getD i xd).2.1
 have l2:=qft row s.2.1
 have l3:=hs.ixc _ (qbx (d:=xd) hi)
 have l4:=hs.key
 rw[qbot hX]
 simp only[q7e,qbe3]
 rw[ix hi,br_t,Int.toNat_natCast,qt3 hX (by omega) row hw _ l3,qf]
 dsimp only
 rw[q2o hX (by omega) _ (by omega),qf,qyv hX (by omega) s row hw l4,qf]
 dsimp only
 rw[q2o hX (by omega) _ (by omega),qf]
 rfl
section
variable {X:Ext} (hX:XOk X) (hI:∀ n xs i ys,qcm (DD X (n+1)) xs i ys=(insW xs i ys).map fun r=>((r,()),()))
include hX hI
theorem q9e (N n:Nat) (hN:W+7≤N) (K:List Way→Option ((List Way×Unit)×Unit)) (r:Rel) (hr:RelSm r) (i:Nat) (hi:i<r.1.2.2.1.length):∀ (m k:Nat) (l:List Way),k≤r.2.1.length→r.2.1.length - k<m→l.length≤k→
  qk1 (DD X N) n K m (i:Int) r.2.1 (r.2.1.length:Int) (k:Int) r l=K (qo6 r.1 i (r.2.1.drop k) l)
 | 0,_,_,_,h,_=>by omega
 | m+1,k,l,hk,hf,hl=>by
  have hM:=qbv
  have h2:=hr.rows
  simp only[qk1,qy1]
  by_cases h:k<r.2.1.length
  ·rw[qj (by exact_mod_cast h),ix h,br_t,Int.toNat_natCast,qbqx hX (by omega) r.1 hr.sch i hi _ (hr.row _ (qbx h)),qf]
   dsimp only
   have hp:=q7i l (qrd r.1 i (r.2.1.getD k []))
   rw[qbmo hX hI (by omega) l (by omega),qf,qr (by omega),qdo h,qbi h]
   rw[qbi h] at hp
   dsimp only
   exact q9e N n hN K r hr i hi m (k+1) _ (by omega) (by omega) (by omega)
  ·rw[qo (by exact_mod_cast h),qfg h];rfl
end
section
variable {X:Ext} (hX:XC X) (hI:∀ n xs i ys,qcm (DD X (n+1)) xs i ys=(insW xs i ys).map fun r=>((r,()),()))
include hX hI
theorem qbl2 {n:Nat} (hn:W+11≤n) (r:Rel) (hr:RelSm r) (i:Int):q0l (DD X n) r i=some ((qij r i,()),()):=by
 obtain ⟨n,rfl⟩:∃ k,n=k+1:=⟨n - 1,by omega⟩
 have hM:=qbv
 have hW:=qcf
 have h2:=hr.rows
 have h3:=hr.sch.ixs
 rw[qbj5 hX.ok]
 simp only[q0s,q0y,qvn]
 rw[qbcy hX (by omega) r hr,qf,qwb hX.ok (by omega),qf,qcr (by omega) (by omega)]
 unfold qij
 dsimp only
 cases qdc r
 ·rfl
 ·cases hin:inR i 0 ((r.1.2.2.1.length:Int) - 1)
  ·rfl
  ·obtain ⟨p1,p2⟩:=q9v hin
   obtain ⟨i,rfl⟩:=Int.eq_ofNat_of_zero_le p1
   rw[Bool.not_true,br_f,br_f]
   have e:=q9e hX.ok hI n n (by omega) (fun v0_0=>quu (DD X n) n v0_0) r hr i (by omega) n 0 [] (Nat.zero_le _) (by omega) (Nat.le_refl _)
   rw[show ((0:Nat):Int)=0 from rfl] at e
   rw[e];rfl
end
theorem q9u {X:Ext} (hX:XOk X) (N n:Nat) (hN:W+8≤N) (K:List Way→Option ((List Way×Unit)×Unit)) (r:Rel) (hr:RelSm r) (i:Int):∀ (m k:Nat) (l:List Way),k≤r.2.1.length→r.2.1.length - k<m→l.length≤k→
  qk0 (DD X N) n K m i (k:Int) r l=K (if (qdc r&&inR i 0 ((r.1.2.2.1.length:Int) - 1))=true then qo6 r.1 i.toNat (r.2.1.drop k) l else l)
 | 0,_,_,_,h,_=>by omega
 | m+1,k,l,hk,hf,hl=>by
  have hM:=qbv
  have h2:=hr.rows
  simp only[qk0,qya]
  by_cases h:k<r.2.1.length
  ·rw[qj (by exact_mod_cast h),qtr hX (by omega) r hr,qf]
   dsimp only
   cases hok:qdc r
   ·rfl
   ·have hrow:=((qrv r).1 hok).2.2.1 _ (qbx (d:=[]) h)
    rw[br_t,ix h,br_t,Int.toNat_natCast,qbmz hX (by omega) r hr i _ (hr.row _ (qbx h)),qf,qr (by omega),qdo h]
    dsimp only
    have ih:=fun l' hl'=>q9u hX N n hN K r hr i m (k+1) l' (by omega) (by omega) hl'
    rw[hok] at ih
    cases hin:inR i 0 ((r.1.2.2.1.length:Int) - 1)
    ·have e:q7d r i (r.2.1.getD k [])=((ByteArray.empty,ByteArray.empty,()),false):=by
      unfold q7d
      rw[hin,Bool.and_false,if_neg Bool.noConfusion]
     rw[e,br_f,ih l (by omega),hin,Bool.and_false,if_neg Bool.noConfusion,if_neg Bool.noConfusion]
    ·rw[qbro hrow hin,br_t]
     have hp:=q7i l (qrd r.1 i.toNat (r.2.1.getD k []))
     dsimp only
     rw[qblq hX (by omega) l (by omega),qf]
     dsimp only
     rw[ih _ (by omega),hin,Bool.and_true,if_pos rfl,if_pos rfl,qbi h];rfl
  ·rw[qo (by exact_mod_cast h),qfg h]
   split<;>rfl
theorem qbmj {X:Ext} (hX:XOk X) {n:Nat} (hn:W+9≤n) (r:Rel) (hr:RelSm r) (i:Int):q1e (DD X n) r i=some ((qij r i,()),()):=by
 obtain ⟨n,rfl⟩:∃ k,n=k+1:=⟨n - 1,by omega⟩
 have hM:=qbv
 have hW:=qcf
 have h2:=hr.rows
 rw[qbj9 hX]
 simp only[q0g,q0n,qwt]
 have e:=q9u hX n n (by omega) (fun v0_0=>qt8 (DD X n) n v0_0) r hr i n 0 [] (Nat.zero_le _) (by omega) (Nat.le_refl _)
 rw[show ((0:Nat):Int)=0 from rfl] at e
 rw[e];rfl
theorem q9c (s:qba) (i:Nat):∀ (rows:List Row) (l:List Way),(qo6 s i rows l).length≤l.length+rows.length
 | [],l=>Nat.le_refl _
 | row::rows,l=>by
  have h1:=q9c s i rows (qmx l (qrd s i row))
  have h2:=q7i l (qrd s i row)
  simp only[qo6,List.length_cons];omega
theorem qbo4 (r:Rel) (i:Int):(qij r i).length≤r.2.1.length:=by
 unfold qij
 split
 ·have:=q9c r.1 i.toNat r.2.1 []
  simpa using this
 ·exact Nat.zero_le _
end Go.G

namespace Go.G
set_option maxRecDepth 100000
open Go Go.V Go.Proofs
theorem qbif (a b:Way):wlt a b=true↔a.1.toList<b.1.toList∨(a.1=b.1∧a.2.1.toList<b.2.1.toList):=by
 have e:(ByteArray.toList a.1 == ByteArray.toList b.1)=decide (a.1=b.1):=qmw
 have e2:List.beq (ByteArray.toList a.1) (ByteArray.toList b.1)=decide (a.1=b.1):=e
 unfold wlt
 rw[qba0,qba0,e2]
 by_cases h:a.1.toList<b.1.toList
 ·simp[h]
 ·by_cases h2:a.1=b.1
  ·rw[decide_eq_false h,decide_eq_true h2];simp[h2,List.lt_irrefl]
  ·rw[decide_eq_false h,decide_eq_false h2];simp[h,h2]
theorem qbqa {a b c:Way} (h:wlt a b=true) (k:wlt b c=true):wlt a c=true:=by
 rw[qbif] at *
 rcases h with h | ⟨h,h2⟩
 ·rcases k with k | ⟨k,_⟩
  ·exact .inl (List.lt_trans h k)
  ·exact .inl (k ▸ h)
 ·rcases k with k | ⟨k,k2⟩
  ·exact .inl (h ▸ k)
  ·exact .inr ⟨h.trans k,List.lt_trans h2 k2⟩
theorem qbqf (a b:Way):wlt a b=true∨a=b∨wlt b a=true:=by
 rw[qbif,qbif]
 obtain ⟨a1,a2,⟨⟩⟩:=a
 obtain ⟨b1,b2,⟨⟩⟩:=b
 dsimp only
 by_cases h1:a1.toList<b1.toList
 ·exact .inl (.inl h1)
 ·by_cases h2:b1.toList<a1.toList
  ·exact .inr (.inr (.inl h2))
  ·have e1:a1=b1:=qbao (List.le_antisymm (List.not_lt.1 h2) (List.not_lt.1 h1))
   subst e1
   by_cases h3:a2.toList<b2.toList
   ·exact .inl (.inr ⟨rfl,h3⟩)
   ·by_cases h4:b2.toList<a2.toList
    ·exact .inr (.inr (.inr ⟨rfl,h4⟩))
    ·have e2:a2=b2:=qbao (List.le_antisymm (List.not_lt.1 h4) (List.not_lt.1 h3))
     exact .inr (.inl (by rw[e2]))
def qba7 (l:List Way):Prop:=l.Pairwise fun a b=>wlt a b=true
theorem qbug {α:Type} (l:List α) (j:Nat) (w x:α):x∈l.take j++[w]++l.drop j↔x=w∨x∈l:=by
 have:x∈l↔x∈l.take j∨x∈l.drop j:=by rw[←List.mem_append,List.take_append_drop]
 simp only[List.mem_append,List.mem_singleton,this]
 constructor
 ·rintro ((h | h) | h)
  ·exact .inr (.inl h)
  ·exact .inl h
  ·exact .inr (.inr h)
 ·rintro (h | h | h)
  ·exact .inl (.inr h)
  ·exact .inl (.inl h)
  ·exact .inr h
theorem qbtl (l:List Way) (w x:Way):x∈qmx l w↔x=w∨x∈l:=by
 unfold qmx
 cases hf:qw (fun i=>!wlt (l.getD i wd) w) 0 l.length with
 | none=>simp only[List.mem_append,List.mem_singleton];exact Or.comm
 | some j=>
  have hj:j<l.length:=by have:=(qcp hf).2.1;omega
  dsimp only
  by_cases e:l.getD j wd=w
  ·rw[if_pos e]
   exact ⟨.inr,fun k=>k.elim (fun k=>by rw[k,←e];exact qbx hj) id⟩
  ·rw[if_neg e];exact qbug l j w x
theorem qbop {l:List Way} (h:qba7 l) (w:Way):qba7 (qmx l w):=by
 unfold qmx
 have hp:=List.pairwise_iff_getElem.1 h
 cases hf:qw (fun i=>!wlt (l.getD i wd) w) 0 l.length with
 | none=>
  have hn:=qiq hf
  refine List.pairwise_append.2 ⟨h,List.pairwise_singleton _ _,fun a ha b hb=>?_⟩
  rw[List.mem_singleton] at hb;subst hb
  obtain ⟨i,hi,rfl⟩:=List.mem_iff_getElem.1 ha
  have:=hn i (Nat.zero_le _) (by omega)
  rw[qbi hi] at this
  simpa using this
 | some j=>
  obtain ⟨_,hj,hjp,hjl⟩:=qcp hf
  have hj:j<l.length:=by omega
  dsimp only
  by_cases e:l.getD j wd=w
  ·rw[if_pos e];exact h
  ·rw[if_neg e]
   have hw:wlt w l[j]=true:=by
    rw[qbi hj] at hjp e
    rcases qbqf w l[j] with k | k | k
    ·exact k
    ·exact absurd k.symm e
    ·rw[k] at hjp;cases hjp
   have hlo:∀ a∈l.take j,wlt a w=true:=fun a ha=>by
    obtain ⟨i,hi,hij,rfl⟩:=qbc2 ha
    have:=hjl i (Nat.zero_le _) hij
    rw[qbi hi] at this
    simpa using this
   have hhi:∀ b∈l.drop j,wlt w b=true:=fun b hb=>by
    obtain ⟨i,hi,hij,rfl⟩:=qbcn hb
    by_cases k:i=j
    ·subst k;exact hw
    ·exact qbqa hw (hp j i hj hi (by omega))
   have hs:(l.take j++l.drop j).Pairwise fun a b=>wlt a b=true:=by rw[List.take_append_drop];exact h
   obtain ⟨p1,p2,p3⟩:=List.pairwise_append.1 hs
   refine List.pairwise_append.2 ⟨List.pairwise_append.2 ⟨p1,List.pairwise_singleton _ _,fun a ha b hb=>?_⟩,p2,fun a ha b hb=>?_⟩
   ·rw[List.mem_singleton] at hb;subst hb;exact hlo a ha
   ·rcases List.mem_append.1 ha with ha | ha
    ·exact p3 a ha b hb
    ·rw[List.mem_singleton] at ha;subst ha;exact hhi b hb
theorem qbc8 (s:qba) (i:Nat):∀ (rows:List Row) {l:List Way},qba7 l→qba7 (qo6 s i rows l)
 | [],_,h=>h
 | row::rows,_,h=>qbc8 s i rows (qbop h _)
theorem qbpu (r:Rel) (i:Int):qba7 (qij r i):=by
 unfold qij
 split
 ·exact qbc8 _ _ _ List.Pairwise.nil
 ·exact List.Pairwise.nil
theorem qbsq (y:Int) (k:Nat):0≤qbga y k∧qbga y k<256:=by
 unfold qbga
 rw[qu9]
 exact ⟨Int.emod_nonneg _ (by decide),Int.emod_lt_of_pos _ (by decide)⟩
def Byt (l:List Int):Prop:=∀ x∈l,0≤x∧x<256
theorem qbe2 (y:Int):∀ k,Byt (qpj y k)
 | 0=>fun _ h=>nomatch h
 | k+1=>fun x hx=>by
  rcases List.mem_cons.1 hx with rfl | hx
  ·exact qbsq y k
  ·exact qbe2 y k x hx
theorem qbk1 (t:ByteArray):∀ k i,Byt (escF t i k)
 | 0,_=>fun _ h=>nomatch h
 | k+1,i=>fun x hx=>by
  simp only[escF,List.mem_cons,List.mem_append] at hx
  have hu:=UInt8.toNat_lt (t.data.getD i (UInt8.ofNat 0))
  rcases hx with rfl | hx | hx
  ·omega
  ·split at hx
   ·simp only[List.mem_singleton] at hx;omega
   ·simp at hx
  ·exact qbk1 t k (i+1) x hx
theorem qbik (v:Value):Byt (qdh v):=by
 have ht:0≤tagI v∧tagI v<256:=by
  unfold tagI
  rw[qu9]
  exact ⟨Int.emod_nonneg _ (by decide),Int.emod_lt_of_pos _ (by decide)⟩
 intro x hx
 unfold qdh at hx
 split at hx
 ·simp only[List.mem_cons,List.not_mem_nil,or_false] at hx
  rcases hx with rfl | rfl
  ·exact ht
  ·rw[qu9];exact ⟨Int.emod_nonneg _ (by decide),Int.emod_lt_of_pos _ (by decide)⟩
 ·split at hx
  ·rcases List.mem_cons.1 hx with rfl | hx
   ·exact ht
   ·exact qbe2 _ _ x hx
  ·split at hx
   ·rcases List.mem_cons.1 hx with rfl | hx
    ·exact ht
    ·rcases List.mem_append.1 hx with hx | hx
     ·exact qbk1 _ _ _ x hx
     ·simp only[List.mem_cons,List.not_mem_nil,or_false] at hx
      rcases hx with rfl | rfl<;>omega
   ·simp only[List.mem_singleton] at hx
    subst hx;exact ht
theorem qbnq:∀ {a b:List Int},Byt a→Byt b→qsu a=qsu b→a=b:=by
 intro a b ha hb h
 have h2:a.map (fun n=>UInt8.ofNat (Int.toNat n))=b.map (fun n=>UInt8.ofNat (Int.toNat n)):=by
  have:=congrArg (fun z:ByteArray=>z.data.toList) h
  simpa [qsu] using this
 have key:∀ (a b:List Int),Byt a→Byt b→a.map (fun n=>UInt8.ofNat (Int.toNat n))=b.map (fun n=>UInt8.ofNat (Int.toNat n))→a=b:=by
  intro a
  induction a with
  | nil=>intro b _ _ h;cases b with | nil=>rfl | cons y b=>simp at h
  | cons x a ih=>
   intro b ha hb h
   cases b with
   | nil=>simp at h
   | cons y b=>
    simp only[List.map_cons,List.cons.injEq] at h
    have hx:=ha x (by simp)
    have hy:=hb y (by simp)
    have e:=congrArg UInt8.toNat h.1
    simp only[UInt8.toNat_ofNat'] at e
    have:x=y:=by omega
    rw[this,ih b (fun z hz=>ha z (by simp[hz])) (fun z hz=>hb z (by simp[hz])) h.2]
 exact key a b ha hb h2
def escL:List UInt8→List Int
 | []=>[]
 | b::l=>(b.toNat:Int)::((if (b.toNat:Int)=0 then [255] else [])++escL l)
theorem q9h (t:ByteArray):∀ (k i:Nat),i+k=t.size→escF t i k=escL (t.data.toList.drop i)
 | 0,i,h=>by
  have:t.data.toList.length=t.size:=rfl
  rw[List.drop_eq_nil_of_le (by omega)];rfl
 | k+1,i,h=>by
  have hl:t.data.toList.length=t.size:=rfl
  have hi:i<t.data.toList.length:=by omega
  have hg:t.data.getD i (UInt8.ofNat 0)=t.data.toList[i]:=by
   simp only[Array.getD,Array.length_toList] at hi ⊢
   rw[dif_pos hi];rfl
  rw[List.drop_eq_getElem_cons hi]
  simp only[escF,escL]
  rw[hg,q9h t k (i+1) (by omega)]
theorem qbiw:∀ {l l':List UInt8} {R R':List Int},escL l++0::1::R=escL l'++0::1::R'→l=l'∧R=R'
 | [],[],R,R',h=>by simp only[escL,List.nil_append,List.cons.injEq,true_and] at h;exact ⟨rfl,h⟩
 | [],b::l',R,R',h=>by
  simp only[escL,List.nil_append,List.cons_append,List.cons.injEq] at h
  obtain ⟨h1,h2⟩:=h
  rw[if_pos h1.symm] at h2
  simp at h2
 | b::l,[],R,R',h=>by
  simp only[escL,List.nil_append,List.cons_append,List.cons.injEq] at h
  obtain ⟨h1,h2⟩:=h
  rw[if_pos h1] at h2
  simp at h2
 | b::l,b'::l',R,R',h=>by
  simp only[escL,List.cons_append,List.cons.injEq] at h
  obtain ⟨h1,h2⟩:=h
  have hb:b=b':=UInt8.toNat_inj.1 (by omega)
  subst hb
  by_cases h0:(b.toNat:Int)=0
  ·rw[if_pos h0] at h2
   simp only[List.cons_append,List.nil_append,List.cons.injEq,true_and] at h2
   obtain ⟨e1,e2⟩:=qbiw h2
   exact ⟨by rw[e1],e2⟩
  ·rw[if_neg h0] at h2
   simp only[List.nil_append] at h2
   obtain ⟨e1,e2⟩:=qbiw h2
   exact ⟨by rw[e1],e2⟩
theorem qbup {y z:Int} (hy:0≤y) (hy2:y<9223372036854775808) (hz:0≤z) (hz2:z<9223372036854775808) (h:qpj y 8=qpj z 8):y=z:=by
 simp only[qpj,qbga,qu9,List.cons.injEq,and_true] at h
 obtain ⟨h7,h6,h5,h4,h3,h2,h1,h0⟩:=h
 have p:∀ (x:Int) (k:Nat),Int.fdiv x (Int.pow 2 k)=x / (Int.pow 2 k):=fun x k=>Int.fdiv_eq_ediv_of_nonneg x (by
  have:(0:Int)≤2 ^ k:=Int.pow_nonneg (by decide)
  exact this)
 rw[p,p] at h7 h6 h5 h4 h3 h2 h1 h0
 have q7:Int.pow 2 (8 * 7)=72057594037927936:=by decide
 have q6:Int.pow 2 (8 * 6)=281474976710656:=by decide
 have q5:Int.pow 2 (8 * 5)=1099511627776:=by decide
 have q4:Int.pow 2 (8 * 4)=4294967296:=by decide
 have q3:Int.pow 2 (8 * 3)=16777216:=by decide
 have q2:Int.pow 2 (8 * 2)=65536:=by decide
 have q1:Int.pow 2 (8 * 1)=256:=by decide
 have q0:Int.pow 2 (8 * 0)=1:=by decide
 rw[q7] at h7;rw[q6] at h6;rw[q5] at h5;rw[q4] at h4;rw[q3] at h3;rw[q2] at h2;rw[q1] at h1;rw[q0] at h0
 omega
theorem q7f {v:Value}:∃ l,qdh v=tagI v::l:=by
 unfold qdh
 split
 ·exact ⟨_,rfl⟩
 ·split
  ·exact ⟨_,rfl⟩
  ·split<;>exact ⟨_,rfl⟩
theorem q6p {v:Value} (h:qci v=true):0≤v.1∧v.1≤3:=by
 unfold qci at h
 by_cases h0:v.1=0
 ·omega
 ·by_cases h1:v.1=1
  ·omega
  ·by_cases h2:v.1=2
   ·omega
   ·by_cases h3:v.1=3
    ·omega
    ·rw[decide_eq_false h0,decide_eq_false h1,decide_eq_false h2,decide_eq_false h3] at h;cases h
theorem qbpw {v:Value} (h:qci v=true):tagI v=v.1+1:=by
 obtain ⟨h0,h3⟩:=q6p h
 unfold tagI
 rw[qcr (by omega) (by omega),qu9]
 omega
theorem qve {v:Value} (h:qmn v=true):v.2.2.1=ByteArray.mk #[]:=by simpa [qmn] using h
theorem qbri {v v':Value} (h:qci v=true) (h':qci v'=true) {R R':List Int} (e:qdh v++R=qdh v'++R'):v=v'∧R=R':=by
 obtain ⟨k0,k3⟩:=q6p h
 obtain ⟨k0',k3'⟩:=q6p h'
 have hk:v.1=v'.1:=by
  obtain ⟨l,hl⟩:=q7f (v:=v)
  obtain ⟨l',hl'⟩:=q7f (v:=v')
  rw[hl,hl'] at e
  simp only[List.cons_append,List.cons.injEq] at e
  have:=e.1
  rw[qbpw h,qbpw h'] at this
  omega
 obtain ⟨a,b,c,⟨⟩⟩:=v
 obtain ⟨a',b',c',⟨⟩⟩:=v'
 dsimp only at hk k0 k3
 subst hk
 unfold qci at h h'
 unfold qdh at e
 dsimp only at h h' e
 by_cases h1:a=1
 ·subst h1
  replace h:(inR b 0 1&&qmn (1,b,c,()))=true:=h
  replace h':(inR b' 0 1&&qmn (1,b',c',()))=true:=h'
  simp only[Bool.and_eq_true,inR,decide_eq_true_eq] at h h'
  have t:=qve h.2
  have t':=qve h'.2
  dsimp only at t t'
  subst t;subst t'
  simp only[if_true,tagI,qu9,List.cons_append,List.nil_append,List.cons.injEq,true_and] at e
  have:b=b':=by omega
  exact ⟨by rw[this],e.2⟩
 ·by_cases h2:a=2
  ·subst h2
   replace h:(inR b (-1000000000000) 1000000000000&&qmn (2,b,c,()))=true:=h
   replace h':(inR b' (-1000000000000) 1000000000000&&qmn (2,b',c',()))=true:=h'
   simp only[Bool.and_eq_true,inR,decide_eq_true_eq] at h h'
   have t:=qve h.2
   have t':=qve h'.2
   dsimp only at t t'
   subst t;subst t'
   rw[if_neg (by decide),if_pos rfl,if_neg (by decide),if_pos rfl] at e
   simp only[tagI,List.cons_append,List.cons.injEq,true_and] at e
   obtain ⟨e1,e2⟩:=List.append_inj e (by rw[qvu,qvu])
   rw[qcr (by omega) (by omega),qcr (by omega) (by omega)] at e1
   have:=qbup (by omega) (by omega) (by omega) (by omega) e1
   have:b=b':=by omega
   exact ⟨by rw[this],e2⟩
  ·by_cases h3:a=3
   ·subst h3
    replace h:(decide (b=0)&&decide ((c.size:Int)≤20))=true:=h
    replace h':(decide (b'=0)&&decide ((c'.size:Int)≤20))=true:=h'
    simp only[Bool.and_eq_true,inR,decide_eq_true_eq] at h h'
    rw[if_neg (by decide),if_neg (by decide),if_pos rfl,if_neg (by decide),if_neg (by decide),if_pos rfl] at e
    simp only[tagI,List.cons_append,List.cons.injEq,true_and,List.append_assoc,List.nil_append] at e
    rw[q9h c c.size 0 (by omega),q9h c' c'.size 0 (by omega),List.drop_zero,List.drop_zero] at e
    obtain ⟨e1,e2⟩:=qbiw e
    have hc:c=c':=by
     cases c;cases c'
     simp only[ByteArray.mk.injEq]
     exact Array.toList_inj.1 e1
    exact ⟨by rw[hc,h.1,h'.1],e2⟩
   ·have h0:a=0:=by omega
    subst h0
    replace h:(decide (b=0)&&qmn (0,b,c,()))=true:=h
    replace h':(decide (b'=0)&&qmn (0,b',c',()))=true:=h'
    simp only[Bool.and_eq_true,inR,decide_eq_true_eq] at h h'
    have t:=qve h.2
    have t':=qve h'.2
    dsimp only at t t'
    subst t;subst t'
    rw[if_neg (by decide),if_neg (by decide),if_neg (by decide),if_neg (by decide),if_neg (by decide),if_neg (by decide)] at e
    simp only[tagI,List.cons_append,List.nil_append,List.cons.injEq,true_and] at e
    exact ⟨by rw[h.1,h'.1],e⟩
theorem qbk5:∀ {a b:Row},(∀ v∈a,qci v=true)→(∀ v∈b,qci v=true)→a.flatMap qdh=b.flatMap qdh→a=b
 | [],[],_,_,_=>rfl
 | [],y::b,_,_,h=>by
  obtain ⟨l,hl⟩:=q7f (v:=y)
  rw[List.flatMap_cons,hl] at h;simp at h
 | x::a,[],_,_,h=>by
  obtain ⟨l,hl⟩:=q7f (v:=x)
  rw[List.flatMap_cons,hl] at h;simp at h
 | x::a,y::b,ha,hb,h=>by
  rw[List.flatMap_cons,List.flatMap_cons] at h
  obtain ⟨e1,e2⟩:=qbri (ha x (by simp)) (hb y (by simp)) h
  rw[e1,qbk5 (fun v hv=>ha v (by simp[hv])) (fun v hv=>hb v (by simp[hv])) e2]
theorem qbf7 {a:Row} (hl:a.length≤4) (hv:∀ v∈a,qci v=true):qkx a=true:=by
 unfold qkx
 rw[decide_eq_true (by omega),qbl.2 (fun j _ hj=>?_)]
 ·rfl
 ·have hj:j<a.length:=by omega
  rw[qbi hj,hv _ (List.getElem_mem hj)];rfl
theorem qbql {a b:Row} (ha:qkx a=true) (hb:qkx b=true) (h:qsu (qhl a)=qsu (qhl b)):a=b:=by
 obtain ⟨_,va⟩:=qty ha
 obtain ⟨_,vb⟩:=qty hb
 unfold qhl at h
 rw[if_pos ha,if_pos hb] at h
 have bt:∀ c:Row,Byt (c.flatMap qdh):=fun c x hx=>by
  obtain ⟨v,_,hv⟩:=List.mem_flatMap.1 hx
  exact qbik v x hv
 exact qbk5 va vb (qbnq (bt a) (bt b) h)
theorem qboq {s:qba} (h:qex s=true):s.2.1.length≤4:=by
 simp only[qex,Bool.and_eq_true,qcq,inR,decide_eq_true_eq] at h
 omega
theorem qbtk {s:qba} {i:Nat} {x y:Row} (hx:qib s x=true) (hy:qib s y=true) (h:qrd s i x=qrd s i y):qn x s.2.1=qn y s.2.1:=by
 have hs:qex s=true:=by simp only[qib,Bool.and_eq_true] at hx;exact hx.1
 have hk:=qboq hs
 have lx:=qft x s.2.1
 have ly:=qft y s.2.1
 refine qbql (qbf7 (by omega) fun v hv=>q7u hx v (q48 v hv)) (qbf7 (by omega) fun v hv=>q7u hy v (q48 v hv)) ?_
 exact congrArg (fun w:Way=>w.2.1) h
end Go.G

/- The row FnWaysOrder holds: for all bytes the law returns true and the argument reads as before. No condition. -/
namespace Go.G
set_option linter.unusedVariables false
set_option linter.unusedSimpArgs false
set_option maxRecDepth 100000
open Go Go.V Go.Proofs

theorem qbpm {X:Ext} (hX:XOk X) {n:Nat} (hn:W+1≤n) (a b:List Way) (ha:a.length≤M):qv9 (DD X n) a b=some ((decide (a=b),()),()):=by
 obtain ⟨n,rfl⟩:∃ k,n=k+1:=⟨n - 1,by omega⟩
 have hM:=qbv
 have hW:=qcf
 rw[qbe4 hX]
 simp only[qwq,qvv,qtb]
 rw[qba5]
 by_cases hl:a.length=b.length
 ·rw[decide_eq_true hl,Bool.not_true,br_f]
  refine Eq.trans (qic (L:=fun m i=>qiv (DD X n) n _ _ m a b (i:Int)) (N:=a.length) (P:=fun i=>!decide (a.getD i wd=b.getD i wd))
   (A:=some ((false,()),())) (B:=some ((true,()),())) (fun m i hi=>?_) (m:=n) (by omega)) ?_
  ·simp only[qiv,qux]
   by_cases h:i<a.length
   ·rw[qj (by exact_mod_cast h),ix h,br_t,ix (hl ▸ h),br_t,Int.toNat_natCast,q9g,qr (by omega),if_pos h];rfl
   ·rw[qo (by exact_mod_cast h),if_neg h];rfl
  ·by_cases e:a=b
   ·rw[decide_eq_true e,qbl.2 (fun j _ _=>by rw[e];simp)];rfl
   ·rw[decide_eq_false e]
    have:qt (fun i=>!decide (a.getD i wd=b.getD i wd)) 0 a.length=true:=by
     rw[←Bool.not_eq_false]
     intro hf
     apply e
     apply List.ext_getElem hl
     intro i h1 h2
     have:=qbl.1 hf i (by omega) (by omega)
     rw[qbi h1,qbi h2] at this
     simpa using this
    rw[this];rfl
 ·have:¬ a=b:=fun e=>hl (by rw[e])
  rw[decide_eq_false hl,decide_eq_false this];rfl
theorem qbpr {r:Rel} (hok:qdc r=true) (i:Nat) {j k:Nat} (hj:j<r.2.1.length) (hk:k<r.2.1.length) (h:k≠j):qrd r.1 i r.2.1[k]≠qrd r.1 i r.2.1[j]:=by
 obtain ⟨_,_,h3,h4⟩:=(qrv r).1 hok
 have hp:=List.pairwise_iff_getElem.1 h4
 intro e
 have e2:=qbtk (h3 _ (List.getElem_mem hk)) (h3 _ (List.getElem_mem hj)) e
 rcases Nat.lt_or_gt_of_ne h with q | q
 ·have:=(hp k j hk hj q).1
  rw[e2,q7a] at this;cases this
 ·have:=(hp j k hj hk q).1
  rw[e2,q7a] at this;cases this
theorem qbtj {l:List Way} {w:Way} (h:w∉l):(qmx l w).length=l.length+1:=by
 unfold qmx
 cases hf:qw (fun i=>!wlt (l.getD i wd) w) 0 l.length with
 | none=>simp
 | some j=>
  have hj:j<l.length:=by have:=(qcp hf).2.1;omega
  dsimp only
  rw[if_neg (fun e=>h (by rw[←e];exact qbx hj))]
  simp only[List.length_append,List.length_take,List.length_drop,List.length_cons,List.length_nil];omega
theorem qblg (s:qba) (i:Nat):∀ (rows:List Row) (l:List Way),(∀ row∈rows,qrd s i row∉l)→rows.Pairwise (fun x y=>qrd s i x≠qrd s i y)→(qo6 s i rows l).length=l.length+rows.length
 | [],l,_,_=>rfl
 | row::rows,l,h1,h2=>by
  obtain ⟨p1,p2⟩:=List.pairwise_cons.1 h2
  simp only[qo6,List.length_cons]
  rw[qblg s i rows _ (fun y hy=>?_) p2,qbtj (h1 row (by simp))]
  ·omega
  ·rw[qbtl]
   rintro (e | e)
   ·exact p1 y hy e.symm
   ·exact h1 y (by simp[hy]) e
theorem qbuo {r:Rel} {i:Nat} (hok:qdc r=true) (hi:i<r.1.2.2.1.length):(qij r (i:Int)).length=r.2.1.length:=by
 have hin:inR (i:Int) 0 ((r.1.2.2.1.length:Int) - 1)=true:=by unfold inR;rw[decide_eq_true (by omega),decide_eq_true (by omega)];rfl
 unfold qij
 rw[hok,hin,Bool.and_true,if_pos rfl,Int.toNat_natCast,qblg]
 ·simp
 ·intro _ _ h;simp at h
 ·refine List.pairwise_iff_getElem.2 fun a b ha hb hab=>?_
  exact qbpr hok i hb ha (by omega)
theorem qboa {X:Ext} (hX:XOk X) (N n:Nat) (hN:1≤N) (K0:Bool→Int→Rel→List Way→Option ((Bool×Unit)×Unit)) (K1:Int→Rel→List Way→Option ((Bool×Unit)×Unit)) (r:Rel) (i:Int) (l:List Way) (hl:l.length≤M) (hs:qba7 l) :
  ∀ (m k:Nat),1≤k→l.length - k<m→qgc (DD X N) n K0 K1 m i (k:Int) r l=K1 i r l
 | 0,_,_,h=>by omega
 | m+1,k,hk,hf=>by
  have hM:=qbv
  simp only[qgc,qp7]
  by_cases h:k<l.length
  ·have e:IntKind.wrap IntKind.i64 ((k:Int) - 1)=((k - 1:Nat):Int):=by rw[qcr (by omega) (by omega)];omega
   have hk1:k - 1<l.length:=by omega
   have hlt:=List.pairwise_iff_getElem.1 hs (k - 1) k hk1 h (by omega)
   rw[qj (by exact_mod_cast h),e,ix hk1,br_t,ix h,br_t,Int.toNat_natCast,Int.toNat_natCast,q8b hX hN,qf,qr (by omega),qbi hk1,qbi h,hlt]
   exact qboa hX N n hN K0 K1 r i l hl hs m (k+1) (by omega) (by omega)
  ·rw[qo (by exact_mod_cast h)]
theorem qbgv (a:List Int):qzz (DD qob (W+18)) a=some ((true,()),()):=by
 have hI:=qbqu
 have hC:=hI.toXC
 have hX:=hC.ok
 have hd:=qch
 have hW:=qcf
 have hM:=qbv
 rw[qbap hX]
 simp only[qsb,qrh,qpe]
 rw[qbu9 hX (by omega),qf];dsimp only
 by_cases h:(a.length:Int)>1048576
 ·rw[decide_eq_true h,br_t]
 ·rw[decide_eq_false h,br_f]
  obtain ⟨r,i,hr,e1⟩:=qbme hX (n:=W+17) (by omega) a (by omega)
  have hsm:=hr.sm
  have h2:=hsm.rows
  have h3:=hsm.sch.ixs
  have hlen:=qbo4 r i
  have e2:=qbl2 hC qbn3 (n:=W+17) (by omega) r hsm i
  have e3:=qbmj hX (n:=W+17) (by omega) r hsm i
  have e4:=qbpm hX (n:=W+17) (by omega) (qij r i) (qij r i) (by omega)
  rw[e1,qf];dsimp only
  rw[e2,qf];dsimp only
  rw[e3,qf];dsimp only
  rw[e4,qf,decide_eq_true rfl];dsimp only
  rw[Bool.not_true,br_f]
  have e5:=qboa hX (W+17) (W+17) (by omega) (fun v0_0 v0_1 v0_2 v0_3=>qn2 (DD qob (W+17)) (W+17) v0_0 v0_1 v0_2 v0_3) (fun v1_0 v1_1 v1_2=>qjv (DD qob (W+17)) (W+17) v1_0 v1_1 v1_2) r i (qij r i) (by omega) (qbpu r i) (W+17) 1 (Nat.le_refl _) (by omega)
  rw[show ((1:Nat):Int)=1 from rfl] at e5
  rw[e5]
  simp only[qjv]
  rw[qbcy hC (by omega) r hsm,qf]
  dsimp only
  cases hok:qdc r
  ·have e0:qij r i=[]:=by unfold qij;rw[hok,Bool.false_and,if_neg Bool.noConfusion]
   rw[e0];rfl
  ·by_cases k1:i<0
   ·have e0:qij r i=[]:=by
     unfold qij
     have:inR i 0 ((r.1.2.2.1.length:Int) - 1)=false:=by unfold inR;rw[decide_eq_false (by omega),Bool.false_and]
     rw[this,Bool.and_false,if_neg Bool.noConfusion]
    rw[e0,decide_eq_true k1];rfl
   ·by_cases k2:i≥(r.1.2.2.1.length:Int)
    ·have e0:qij r i=[]:=by
      unfold qij
      have:inR i 0 ((r.1.2.2.1.length:Int) - 1)=false:=by unfold inR;rw[decide_eq_false (show ¬ i≤_ by omega),Bool.and_false]
      rw[this,Bool.and_false,if_neg Bool.noConfusion]
     rw[e0,decide_eq_false k1,decide_eq_true k2];rfl
    ·obtain ⟨i,rfl⟩:=Int.eq_ofNat_of_zero_le (show 0≤i by omega)
     rw[decide_eq_false k1,decide_eq_false k2,qbuo hok (by omega),decide_eq_true rfl];rfl
end Go.G
namespace Go.Proofs.Ytfafjngknkbngaa
open Go.ChangeShapes Go.WideShapes Go.ChangeAt Go.RowKit Go.V Go.G
set_option maxRecDepth 100000
theorem fnWaysOrder_lifted (os:Os) (started:os.Started) (H:Type) (enc:TypeId×Value→H) :
  ReturnsInHanded {} Try.checked os 14 .any (Rows.fnWaysOrderSpec.pre6 enc Try.prog Try.f14 Rows.fnWaysOrderRow.domain false) (Rows.fnWaysOrderSpec.post enc Try.prog Try.f14 false true false false):=
 qbq3 (X:=qob) (tb:=4) started Try.func14 (by kernel_rfl)
  (ChangeSpec.witness6 (enc:=enc) (C:=Try.checked) false ⟨#[],Try.f14.params.map fun t=>((Try.prog.info? t).bind (·.zero)).getD .nilIface,[]⟩ 8 (by kernel_rfl) (by kernel_rfl) (by kernel_rfl) (by kernel_rfl))
  ⟨rfl,rfl,trivial⟩ (by kernel_rfl) (by kernel_rfl) (by kernel_rfl) rfl
  (fun ds h=>by
   match ds,h with
   | [d0],_=>exact ⟨rfl,rfl,rfl⟩)
  (fun a wa=>⟨W+18,((true,()),()),qbgv a.1,fun h Pr Gs us k=>by
   obtain ⟨v,vs,rfl,⟨c,r,rfl⟩,e⟩:=k
   obtain rfl:vs=[]:=e
   simp only[Rep] at r
   subst r
   rfl⟩)
theorem fnWaysOrder_holds:Rows.FnWaysOrderSaid:=
 OpenClaim.holds_of_wide 14 Try.f14 rfl rfl rfl rfl rfl rfl rfl ⟨rfl,rfl,rfl,rfl,rfl⟩ rfl rfl rfl rfl rfl (by kernel_rfl) Try.func14 (by kernel_rfl)
  (of_decide_eq_true (by kernel_rfl)) (by unfold Func.isWrapper;first | (rw[if_pos (by decide +kernel)];kernel_rfl) | (rw[if_neg (by decide +kernel)];exact ⟨rfl,rfl⟩))
  (fun os started H enc _=>fnWaysOrder_lifted os started H enc)
#print axioms fnWaysOrder_holds
end Go.Proofs.Ytfafjngknkbngaa


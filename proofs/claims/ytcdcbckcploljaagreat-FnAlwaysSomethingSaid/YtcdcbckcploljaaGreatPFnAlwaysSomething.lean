/- The row FnAlwaysSomething holds: for all bytes the law returns true and the argument reads as before. No condition. -/
import Derived.Test.YtcdcbckcploljaaGreatAPFnAlwaysSomething2
set_option linter.unusedVariables false
set_option linter.unusedSimpArgs false
set_option linter.unusedSectionVars false
/- The row FnAlwaysSomething holds: for all bytes the law returns true and the argument reads as before. No condition. -/
namespace Go.G
set_option linter.unusedVariables false
set_option linter.unusedSimpArgs false
set_option maxRecDepth 100000
open Go Go.V Go.Proofs

/-- what was put is there, and there first -/
theorem qbe8 {r:qbn} (hr:RightR r) {o:Op3} {list:List Int} (h:Out r o 0 list) (hk:o.1=1∨o.1=2) (hK:0≤o.2.1∧o.2.1≤3) (hV:1≤o.2.2.1) :
  (r.1.set o.2.1.toNat o.2.2.1).getD o.2.1.toNat 0=o.2.2.1∧keyF o.2.2.1 (r.1.set o.2.1.toNat o.2.2.1) 0=o.2.1:=by
 have hl:=hr.len
 refine ⟨by rw[qhd _ _ _ _ (by omega),if_pos rfl],?_⟩
 have hget:(r.1.set o.2.1.toNat o.2.2.1)[o.2.1.toNat]? = some o.2.2.1:=by
  rw[List.getElem?_set,if_pos rfl,if_pos (by omega)]
 have hno:∀ j<o.2.1.toNat,r.1[j]?≠some o.2.2.1:=by
  intro j hj hc
  cases h with
  | put0 _ _ h2=>exact qx5 _ _ _ h2 (List.mem_iff_getElem?.2 ⟨j,hc⟩)
  | set0 _ _ _ h2=>exact qx5 _ _ _ h2 (List.mem_iff_getElem?.2 ⟨j,hc⟩)
  | setS _ h1 h2=>
   have:r.1[o.2.1.toNat]? = some o.2.2.1:=by rw[←h2,List.getElem?_eq_getElem (by omega),qfq (by omega)]
   have:=hr.once j o.2.1.toNat hj _ hc this
   omega
  | _=>omega
 rw[qw3 o.2.2.1 _ 0 o.2.1.toNat hget (fun j hj hc=>by
  rw[List.getElem?_set,if_neg (by omega)] at hc
  exact hno j hj hc)]
 omega
theorem q9r (a:List Int):qmi (DD q8u (W+20)) a=some ((true,()),()):=by
 have hX:XOk q8u:=qbgn
 have hW:=qci
 rw[qvp hX]
 simp only[qif,qmq]
 rw[qbji hX (by omega),qc]
 dsimp only
 by_cases hbig:(a.length:Int)>1048576
 ·rw[qk hbig]
 rw[qh hbig]
 obtain ⟨r,o,hr,ho,e1⟩:=qbby hX (n:=W+19) (by omega) a (by omega)
 have hpk:=q0z ho (wOf r) (fun k hk=>(qop hr hk).2)
 have hlen:(qik r o).length≤8:=by unfold qik;rw[List.length_map];exact hpk.len
 have hrun:=q65 hr ho
 have hv:=qbdt hr ho
 have hl:=hr.len
 have hkd:=qtt ho
 have hout:=qbhf hr ho
 rw[e1,qc]
 dsimp only
 rw[qbay hX (by omega) (by omega),qc,q9p hX (by omega) (by omega) hv,qc]
 dsimp only
 have hcond:opOk o=true∧(run (qik r o) (prog o)).2<0:=⟨ho,by rw[hrun];show (-1:Int)<0;omega⟩
 have hok:(qpk o (qik r o)).2.1=true:=by
  unfold qpk
  rw[if_pos hcond]
  cases qhm o (qik r o)<;>rfl
 rw[hok,decide_eq_true rfl,Bool.not_true,cond_false,br_f,show (r.1,r.2)=r from rfl]
 generalize (qpk o (qik r o)).1.2.1.1=code at *
 generalize (qpk o (qik r o)).1.2.1.2.1=list at *
 rw[q7j hX (by omega) hr ho hout,qc]
 dsimp only
 rw[Bool.not_true,br_f,qbiv hX (by omega) hr ho hout,qc]
 dsimp only
 by_cases hc:code=0
 ·subst hc
  rw[show ((0:Int) != 0)=false by decide,br_f]
  unfold q4r
  rw[if_neg (by omega)]
  by_cases k12:o.1=1∨o.1=2
  ·obtain ⟨p1,p2⟩:=qbe8 hr hout k12 (by omega) (by omega)
   rw[if_pos k12]
   dsimp only
   have hkey:=q1m hX (n:=W+19) (by omega) (r.1.set o.2.1.toNat o.2.2.1,r.2) (by show (r.1.set _ _).length≤1000;rw[List.length_set];omega) o.2.2.1
   dsimp only at hkey
   have hix:(decide (0≤o.2.1)&&decide (o.2.1<((r.1.set o.2.1.toNat o.2.2.1).length:Int)))=true:=ixn (by omega) (by rw[List.length_set];omega)
   rcases k12 with k | k
   ·rw[qk k,qk k,hix,br_t,qk p1,hkey,qc,p2]
    simp
   ·rw[qh (by omega),qk k,hix,br_t,qk p1,hkey,qc,p2]
    simp
  rw[if_neg k12,qh (by omega),qh (by omega)]
  by_cases k3:o.1=3
  ·rw[if_pos k3,qk k3]
   dsimp only
   rw[ixn (by omega) (by rw[List.length_set];omega),br_t,qhd _ _ _ _ (by omega),if_pos rfl]
   rfl
  rw[if_neg k3,qh k3]
  have hsame:=q3g hX (n:=W+19) (by omega) r.1 (by omega)
  by_cases k8:o.1=8
  ·rw[if_pos (.inl k8),qk k8,qk k8]
   dsimp only
   rw[qk rfl,hsame,qc]
  rw[qh k8]
  by_cases k9:o.1=9
  ·rw[if_pos (.inr k9),qk k9]
   dsimp only
   rw[qk rfl,hsame,qc]
  rw[if_neg (by omega),qh k9,hsame,qc]
  simp
 ·rw[show (code != 0)=true by rw[bned,decide_eq_false hc];rfl,br_t]
  unfold q4r
  rw[if_pos hc,q3g hX (by omega) r.1 (by omega),qc]
end Go.G
namespace Go.Proofs.YtcdcbckcploljaaGreat
open Go.ChangeShapes Go.WideShapes Go.ChangeAt Go.RowKit Go.V Go.G
set_option maxRecDepth 100000
theorem fnAlwaysSomething_lifted (os:Os) (started:os.Started) (H:Type) (enc:TypeId×Value→H) :
  ReturnsInHanded {} Tryz.checked os 5 .any (Rows.fnAlwaysSomethingSpec.pre6 enc Tryz.prog Tryz.f5 Rows.fnAlwaysSomethingRow.domain false) (Rows.fnAlwaysSomethingSpec.post enc Tryz.prog Tryz.f5 false true false false):=
 qber (X:=q8u) (tb:=4) started Tryz.func5 (by kernel_rfl)
  (ChangeSpec.witness6 (enc:=enc) (C:=Tryz.checked) false ⟨#[],Tryz.f5.params.map fun t=>((Tryz.prog.info? t).bind (·.zero)).getD .nilIface,[]⟩ 8 (by kernel_rfl) (by kernel_rfl) (by kernel_rfl) (by kernel_rfl))
  ⟨rfl,rfl,trivial⟩ (by kernel_rfl) (by kernel_rfl) (by kernel_rfl) rfl
  (fun ds h=>by
   match ds,h with
   | [d0],_=>exact ⟨rfl,rfl,rfl⟩)
  (fun a wa=>⟨W+20,((true,()),()),q9r a.1,fun h Pr Gs us k=>by
   obtain ⟨v,vs,rfl,⟨c,r,rfl⟩,e⟩:=k
   obtain rfl:vs=[]:=e
   simp only[Rep] at r
   subst r
   rfl⟩)
theorem fnAlwaysSomething_holds:Rows.FnAlwaysSomethingSaid:=
 OpenClaim.holds_of_wide 5 Tryz.f5 rfl rfl rfl rfl rfl rfl rfl ⟨rfl,rfl,rfl,rfl,rfl⟩ rfl rfl rfl rfl rfl (by kernel_rfl) Tryz.func5 (by kernel_rfl)
  (of_decide_eq_true (by kernel_rfl)) (by unfold Func.isWrapper;first | (rw[if_pos (by decide +kernel)];kernel_rfl) | (rw[if_neg (by decide +kernel)];exact ⟨rfl,rfl⟩))
  (fun os started H enc _=>fnAlwaysSomething_lifted os started H enc)
#print axioms fnAlwaysSomething_holds
end Go.Proofs.YtcdcbckcploljaaGreat


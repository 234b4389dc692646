import Derived.KernelRfl
import Derived.WalkKit
import Derived.ProofKit
import Derived.OpenShut
import Derived.Below
import Derived.ChangeOld
import Derived.SizedLaws
import Derived.Test.YtfafjngknkbngaaRows
import Derived.Carry
import Derived.ChangeCalls
import Derived.Test.YtfafjngknkbngaaAV3
set_option linter.unusedVariables false
set_option linter.unusedSimpArgs false
set_option linter.unusedSectionVars false
namespace Go.V
set_option maxRecDepth 100000
open Go Go.Proofs
theorem allTy : AllTy Try.prog ctx := allTy_of tyMax (fun t h => by show cond (Nat.ble t tyMax) _ _ = _; rw [h]; rfl) (by kernel_rfl)
theorem mixed : Try.prog.follows .mixedOrders = true := by kernel_rfl
theorem noCount : ∀ (f : FuncId) (fn : Func), Try.prog.funcs[f]? = some fn → fn.name ≠ "runtime.NumGoroutine" := names_of (by kernel_rfl)
end Go.V

namespace Go.V
open Go
def Wf : (t : Ty) → t.den → Prop
  | .unit, _ => True
  | .int k, n => (Lit.int k n).wf = true
  | .bool, _ => True
  | .str, s => s.size ≤ maxLen
  | .sl t, xs => xs.length ≤ maxLen ∧ ∀ x ∈ xs, Wf t x
  | .pair a b, x => Wf a x.1 ∧ Wf b x.2
section
variable {H : Type} {enc : TypeId × Value → H} {P : Program} {C : Ctx} {w : World} {sp : Nat → Bool} {held : Bool}
def Old (w : World) : BS := fun b => b < w.heap.size
theorem TyOk.cellsOf {t : TypeId} (k : TyOk P C t) : P.cellsOf t = (C.ty t).width := by
  obtain ⟨i, h1, h2, _⟩ := k.info
  simp [Program.cellsOf, h1, h2]
theorem open_fields (hty : AllTy P C) {n : Nat} (ih : ∀ (t : TypeId) (cs : List Value) (z : DataW H × List MemPlace), (C.ty t).nz = true → DataW.trod enc P w 0 sp held n t cs = some z →
      ∃ x : (C.ty t).den, Wf (C.ty t) x ∧ Rep w.heap (Old w) (C.ty t) .no x cs Nil) {cs : List Value} :
    ∀ (fs : List Field) (off : Nat) (T : Ty), StructOk C fs off T → (∀ f ∈ fs, ∃ z, DataW.trod enc P w 0 sp held n f.type ((cs.drop f.offset).take (P.cellsOf f.type)) = some z) → cs.length = off + T.width →
      ∃ x : T.den, Wf T x ∧ Rep w.heap (Old w) T .no x (cs.drop off) Nil
  | [], off, T, hs, _, hl => by
    simp only [StructOk] at hs
    subst hs
    simp only [Ty.width, Nat.add_zero] at hl
    exact ⟨(), trivial, by simp only [Rep]; exact List.drop_eq_nil_of_le (by omega)⟩
  | f :: fs, off, T, hs, hf, hl => by
    obtain ⟨b, rfl, ho, _, hnz, hs⟩ := hs
    obtain ⟨z, hz⟩ := hf f (List.mem_cons_self ..)
    obtain ⟨x, wx, rx⟩ := ih _ _ z hnz hz
    rw [(hty _ hnz).cellsOf, ho] at rx
    simp only [Ty.width] at hl
    obtain ⟨y, wy, ry⟩ := open_fields hty ih fs (off + (C.ty f.type).width) b hs (fun g hg => hf g (List.mem_cons_of_mem _ hg)) (by omega)
    refine ⟨(x, y), ⟨wx, wy⟩, ?_⟩
    simp only [Rep]
    refine ⟨_, _, Nil, Nil, ?_, rx, ry, Sub.nil _, Sub.nil _, Dis.nil _⟩
    rw [← List.drop_drop, List.take_append_drop]
theorem open_rep (hty : AllTy P C) : ∀ (n : Nat) (t : TypeId) (cs : List Value) (z : DataW H × List MemPlace), (C.ty t).nz = true → DataW.trod enc P w 0 sp held n t cs = some z →
      ∃ x : (C.ty t).den, Wf (C.ty t) x ∧ Rep w.heap (Old w) (C.ty t) .no x cs Nil := by
  intro n
  induction n with
  | zero => intro t cs z _ h; simp [DataW.trod] at h
  | succ n ih =>
    intro t cs z hnz h
    have k := hty t hnz
    obtain ⟨d, hd, hdo⟩ := k.desc
    cases d with
    | int kd =>
      simp only [DescOk] at hdo
      obtain ⟨m, rfl, _, hw⟩ := DataW.trod_int hd h
      rw [hdo]
      exact ⟨m, hw, by simp only [Rep]⟩
    | bool =>
      simp only [DescOk] at hdo
      rw [hdo]
      have : ∃ b, cs = [.bool b] := by
        unfold DataW.trod at h
        rw [hd] at h
        split at h <;> simp_all
      obtain ⟨b, rfl⟩ := this
      exact ⟨b, trivial, by simp only [Rep]⟩
    | string =>
      simp only [DescOk] at hdo
      obtain ⟨s, rfl, _, hw⟩ := DataW.trod_string hd h
      rw [hdo]
      exact ⟨s, hw, by simp only [Rep]⟩
    | struct fs =>
      simp only [DescOk] at hdo
      obtain ⟨xs, m, e, _, hl, hlen, hf⟩ := DataW.trod_struct hd h
      obtain rfl : n = m := by omega
      rw [k.cellsOf] at hl
      have := open_fields (cs := cs) hty ih fs.toList 0 (C.ty t) hdo.1 (fun f hf' => by
        obtain ⟨i, hi, e⟩ := List.mem_iff_getElem.1 hf'
        rw [Array.length_toList] at hi
        have h1 := hf i f (by rw [← e]; simp [hi])
        exact ⟨xs[i], by rw [h1]; simp⟩) (by omega)
      simpa using this
    | slice e =>
      simp only [DescOk] at hdo
      obtain ⟨he, hnze⟩ := hdo
      have ke := hty e hnze
      rw [he]
      rcases DataW.trod_slice hd h with ⟨rfl, _⟩ | ⟨a, len, cap, elems, rest, m, e1, rfl, _, _, hlc, hcm, hel, hat, _⟩
      · exact ⟨[], ⟨Nat.zero_le _, fun x hx => by simp at hx⟩, by simp only [Rep]; exact ⟨none, 0, by simp, by simp, fun h => absurd rfl h⟩⟩
      · obtain rfl : n = m := by omega
        rw [ke.cellsOf] at hat
        have hpos := ke.pos
        have key : ∀ i, i < len → ∃ (x : (C.ty e).den) (cs : List Value), Wf (C.ty e) x ∧ Rep w.heap (Old w) (C.ty e) .no x cs Nil ∧ cs.length = (C.ty e).width ∧ ∀ j, j < (C.ty e).width → w.cell? ((a.add (i * (C.ty e).width)).add j) = cs[j]? := by
          intro i hi
          have h1 := hat i hi
          rw [List.getElem?_eq_getElem (by omega)] at h1
          rw [Option.bind_eq_some_iff] at h1
          obtain ⟨cs, h2, h3⟩ := h1
          obtain ⟨x, wx, rx⟩ := ih _ _ _ hnze h3
          obtain ⟨_, hl, hc⟩ := World.cells?_some h2
          exact ⟨x, cs, wx, rx, hl, hc⟩
        by_cases h0 : len = 0
        · subst h0
          exact ⟨[], ⟨Nat.zero_le _, fun x hx => by simp at hx⟩, by simp only [Rep]; exact ⟨some a, cap, by simp, by simp, fun h => absurd rfl h⟩⟩
        · have hz : (C.ty e).den := (C.ty e).zero
          have key2 : ∀ i, ∃ (x : (C.ty e).den), i < len → ∃ (cs : List Value), Wf (C.ty e) x ∧ Rep w.heap (Old w) (C.ty e) .no x cs Nil ∧ cs.length = (C.ty e).width ∧ ∀ j, j < (C.ty e).width → w.cell? ((a.add (i * (C.ty e).width)).add j) = cs[j]? := by
            intro i
            by_cases hi : i < len
            · obtain ⟨x, h⟩ := key i hi; exact ⟨x, fun _ => h⟩
            · exact ⟨hz, fun h => absurd h hi⟩
          obtain ⟨f, hf⟩ := Classical.axiomOfChoice key2
          refine ⟨(List.range len).map f, ⟨by simp; omega, ?_⟩, ?_⟩
          · intro x hx
            simp only [List.mem_map, List.mem_range] at hx
            obtain ⟨i, hi, rfl⟩ := hx
            obtain ⟨_, h, _⟩ := hf i hi
            exact h
          · have hb : ∃ cells ty fr, w.heap[a.block]? = some (.cells cells ty fr) ∧ a.spot = none := by
              obtain ⟨cs, _, _, hl, hc⟩ := hf 0 (by omega)
              have h1 := hc 0 hpos
              rw [List.getElem?_eq_getElem (by omega)] at h1
              simp only [Nat.zero_mul, Addr.add, if_true] at h1
              unfold World.cell? at h1
              split at h1
              · rename_i c ty fr hh
                split at h1
                · simp at h1
                · rename_i hs
                  exact ⟨c, ty, fr, hh, by simpa using hs⟩
              · simp at h1
            obtain ⟨cells, ty, fr, hh, hspot⟩ := hb
            obtain ⟨ab, ao, as'⟩ := a
            simp only at hspot hh
            subst hspot
            have hcell : ∀ i, i < len → ∀ j, j < (C.ty e).width → w.cell? (((⟨ab, ao, none⟩ : Addr).add (i * (C.ty e).width)).add j) = cells[ao + i * (C.ty e).width + j]? := by
              intro i hi j hj
              have : ((⟨ab, ao, none⟩ : Addr).add (i * (C.ty e).width)).add j = ⟨ab, ao + i * (C.ty e).width + j, none⟩ := by
                simp only [Addr.add]; split <;> split <;> simp_all
              rw [this]
              simp [World.cell?, hh]
            have hsub : ∀ i, i < len → ∀ cs : List Value, cs.length = (C.ty e).width → (∀ j, j < (C.ty e).width → w.cell? (((⟨ab, ao, none⟩ : Addr).add (i * (C.ty e).width)).add j) = cs[j]?) →
                sub cells (ao + i * (C.ty e).width) (C.ty e).width = cs ∧ ao + i * (C.ty e).width + (C.ty e).width ≤ cells.size := by
              intro i hi cs hl hc
              have h2 : ∀ j, j < (C.ty e).width → cells[ao + i * (C.ty e).width + j]? = cs[j]? := fun j hj => by rw [← hcell i hi j hj]; exact hc j hj
              have h3 : ao + i * (C.ty e).width + (C.ty e).width ≤ cells.size := by
                have := h2 ((C.ty e).width - 1) (by omega)
                rw [List.getElem?_eq_getElem (by omega)] at this
                have := (Array.getElem?_eq_some_iff.1 this).1
                omega
              refine ⟨?_, h3⟩
              apply List.ext_getElem?
              intro j
              simp only [sub, List.getElem?_take, List.getElem?_drop]
              split
              · rename_i hj; rw [Array.getElem?_toList]; exact h2 j hj
              · rename_i hj; rw [List.getElem?_eq_none (by omega)]
            simp only [Rep]
            refine ⟨some ⟨ab, ao, none⟩, cap, by simp, by simpa using hlc, fun _ => ⟨ab, ao, cells, rfl, ?_, ⟨ty, fr, hh⟩, ?_, ?_⟩⟩
            · exact (Array.getElem?_eq_some_iff.1 hh).1
            · obtain ⟨cs, _, _, hl, hc⟩ := hf (len - 1) (by omega)
              have := (hsub (len - 1) (by omega) cs hl hc).2
              have e2 : len * (C.ty e).width = (len - 1) * (C.ty e).width + (C.ty e).width := by
                rw [show len = (len - 1) + 1 by omega, Nat.add_mul]; simp
              simp only [List.length_map, List.length_range]
              omega
            · intro i hi
              simp only [List.length_map, List.length_range] at hi
              obtain ⟨cs, wx, rx, hl, hc⟩ := hf i hi
              have e3 : ((List.range len).map f).getD i (C.ty e).zero = f i := by
                simp [List.getD, hi]
              rw [e3, (hsub i hi cs hl hc).1]
              exact rx
    | _ => simp [DescOk] at hdo
theorem mkV_of {t : TypeId} (k : TyOk P C t) {r : Reach} {b0 : Nat} {v : Value} (hval : Value.okWide P w r b0 t v) : v = mkV (C.ty t) v.cells.toList := by
  obtain ⟨d, hd, hdo⟩ := k.desc
  cases d with
  | int kd => simp only [DescOk] at hdo; obtain ⟨n, rfl⟩ := Go.WideShapes.okWide_int hd hval; rw [hdo]; simp [mkV, Ty.agg, Value.cells]
  | bool => simp only [DescOk] at hdo; obtain ⟨n, rfl⟩ := Go.WideShapes.okWide_bool hd hval; rw [hdo]; simp [mkV, Ty.agg, Value.cells]
  | string => simp only [DescOk] at hdo; obtain ⟨n, rfl⟩ := Go.WideShapes.okWide_string hd hval; rw [hdo]; simp [mkV, Ty.agg, Value.cells]
  | struct fs =>
    simp only [DescOk] at hdo
    obtain ⟨cs, rfl, _⟩ := Go.WideShapes.okWide_struct hd hval
    have : (C.ty t).agg = true := by
      generalize hfl : fs.toList = l at hdo
      cases l with
      | nil => exact absurd hdo.1 hdo.2
      | cons f l => obtain ⟨⟨b, e, _⟩, _⟩ := hdo; rw [e]; rfl
    simp [mkV, this, Value.cells]
  | slice e =>
    simp only [DescOk] at hdo
    obtain ⟨a, l, c, rfl⟩ := Go.WideShapes.okWide_slice hd hval
    rw [hdo.1]; simp [mkV, Ty.agg, Value.cells]
  | _ => simp [DescOk] at hdo
def valTys : List TypeId → List PK → Ctx → Prop
  | [], [], _ => True
  | t :: ts, .val T :: ks, C => T = C.ty t ∧ (C.ty t).nz = true ∧ valTys ts ks C
  | _, _, _ => False
def WfAll : (ks : List PK) → PDen ks → Prop
  | [], _ => True
  | .val t :: ks, a => Wf t a.1 ∧ WfAll ks a.2
  | _ :: ks, a => WfAll ks a.2
theorem open_all (hty : AllTy P C) {b0 : Nat} : ∀ (ts : List TypeId) (ks : List PK) (vs : List Value) (ds : List (DataW H)) (ps : List MemPlace) (i : Nat), valTys ts ks C → DataW.TrodAll enc P w 0 sp held ts vs ds ps →
    (∀ (j : Nat) t v, ts[j]? = some t → vs[j]? = some v → Value.okWide P w .any b0 t v) → ∃ a : PDen ks, WfAll ks a ∧ PsRel w.heap (Old w) (fun _ => Nil) i ks a vs
  | [], [], vs, ds, ps, i, _, h, _ => by
    obtain ⟨rfl, _, _⟩ := Go.ChangeShapes.trodAll_nil h
    exact ⟨(), trivial, rfl⟩
  | t :: ts, .val T :: ks, vs, ds, ps, i, hv, h, hok => by
    obtain ⟨rfl, hnz, hv⟩ := hv
    obtain ⟨v, vs', d, ds', p, q, rfl, rfl, rfl, ⟨n, h1⟩, h2⟩ := Go.ChangeShapes.trodAll_cons h
    obtain ⟨x, wx, rx⟩ := open_rep hty n t _ _ hnz h1
    obtain ⟨a, wa, ra⟩ := open_all hty ts ks vs' ds' q (i + 1) hv h2 (fun j t' v' ht hv' => hok (j + 1) t' v' (by simpa using ht) (by simpa using hv'))
    exact ⟨(x, a), ⟨wx, wa⟩, v, vs', rfl, ⟨_, rx, mkV_of (hty t hnz) (hok 0 t v rfl rfl)⟩, ra⟩
  | [], _ :: _, _, _, _, _, hv, _, _ => by simp [valTys] at hv
  | _ :: _, [], _, _, _, _, hv, _, _ => by simp [valTys] at hv
  | _ :: _, .own _ _ :: _, _, _, _, _, hv, _, _ => by simp [valTys] at hv
  | _ :: _, .mutp _ _ _ :: _, _, _, _, _, hv, _, _ => by simp [valTys] at hv
  | _ :: _, .mutv _ _ _ :: _, _, _, _, _, hv, _, _ => by simp [valTys] at hv
  | _ :: _, .rptr _ :: _, _, _, _, _, hv, _, _ => by simp [valTys] at hv
  | _ :: _, .fn :: _, _, _, _, _, hv, _, _ => by simp [valTys] at hv
theorem may_nil {n b : Nat} (h : May n (fun _ => Nil) b) : n ≤ b := h.elim id (fun ⟨_, h⟩ => h.elim)
theorem below_of {W W' : World} (h : WFr (May W.heap.size fun _ => Nil) W W') : Go.RowKit.Below W.heap.size W W' :=
  ⟨h.os, h.tape, h.output, h.size, fun k hk => h.block k hk fun hm => by have := may_nil hm; omega⟩
end
end Go.V

namespace Go.V
open Go
section
variable (C : Ctx) (D : Den C) {R : Type}
def loopC (body : St → (Ex → St → Option R) → Option R) (canon canonOut : St → St) : Nat → St → (Ex → St → Option R) → Option R
  | 0, _, _ => none
  | n + 1, S, k => body S fun e S => match e with
    | .normal => loopC body canon canonOut n (canon S) k
    | e => k e (canonOut S)
theorem loopK_eq (body : St → (Ex → St → Option R) → Option R) (canon canonOut : St → St) (k : Ex → St → Option R) : ∀ (n : Nat) (S : St), loopK body canon canonOut n S k = loopC body canon canonOut n (canon S) k
  | 0, _ => rfl
  | n + 1, S => by
    simp only [loopK, loopC]
    congr 1
    funext e S
    cases e with
    | normal => exact loopK_eq body canon canonOut k n S
    | exit id => rfl
    | ret => rfl
noncomputable def execC (H : Hints) (n : Nat) : Code → St → (Ex → St → Option R) → Option R
  | .skip, S, k => k .normal S
  | .region id ops dr, S, k =>
    if guardsOk ops then
      regionK C D H id ops (ops.size + 1) (textOf ops) S [] fun lg S =>
        if dr then (if edgesOk ops && freeAll (Region.before ops) lg lg && slotsAll (Region.before ops) ops (textOf ops) then k .normal S else none) else k .normal S
    else none
  | .seq a b, S, k => execC H n a S fun e S => match e with
    | .normal => execC H n b S k
    | e => k e S
  | .cond c a b, S, k =>
    match asBool (ev S c) with
    | some t => br t (execC H n a S k) (execC H n b S k)
    | none => none
  | .block id b, S, k => execC H n b S fun e S => match e with
    | .exit j => if j = id then k .normal S else k (.exit j) S
    | e => k e S
  | .loop b, S, k =>
    match H.keep.lookup (firstReg b) with
    | some kp => loopC (execC H n b) (St.canon kp.1 kp.2.2) (St.canon kp.2.1 kp.2.2) n (St.canon kp.1 kp.2.2 S) k
    | none => none
  | .exit id, S, k => k (.exit id) S
  | .ret, S, k => k .ret S
  | _, _, _ => none
theorem exec_eq (H : Hints) (n : Nat) : ∀ (c : Code), (exec C D H n c : St → (Ex → St → Option R) → Option R) = execC C D H n c := by
  intro c
  induction c with
  | seq a b iha ihb => funext S k; simp only [exec, execC, iha, ihb]; rfl
  | cond c a b iha ihb => funext S k; simp only [exec, execC, iha, ihb]; rfl
  | block id b ih => funext S k; simp only [exec, execC, ih]; rfl
  | loop b ih => funext S k; simp only [exec, execC, ih, loopK_eq]; rfl
  | _ => funext S k; simp only [exec, execC]
inductive Dir where
  | l | r
def codeAt : Code → List Dir → Code
  | c, [] => c
  | .seq a _, .l :: p => codeAt a p
  | .seq _ b, .r :: p => codeAt b p
  | .cond _ a _, .l :: p => codeAt a p
  | .cond _ _ b, .r :: p => codeAt b p
  | .block _ b, .l :: p => codeAt b p
  | .loop b, .l :: p => codeAt b p
  | _, _ => .skip
noncomputable def contAt (H : Hints) (n : Nat) : Code → List Dir → (Ex → St → Option R) → Ex → St → Option R
  | _, [], k => k
  | .seq a b, .l :: p, k => contAt H n a p fun e S => match e with
    | .normal => execC C D H n b S k
    | e => k e S
  | .seq _ b, .r :: p, k => contAt H n b p k
  | .cond _ a _, .l :: p, k => contAt H n a p k
  | .cond _ _ b, .r :: p, k => contAt H n b p k
  | .block id b, .l :: p, k => contAt H n b p fun e S => match e with
    | .exit j => if j = id then k .normal S else k (.exit j) S
    | e => k e S
  | _, _, _ => fun _ _ => none
end
def spread {α : Type} (d : α) : Nat → Nat → List (Nat × α) → List α
  | _, 0, _ => []
  | i, n + 1, [] => d :: spread d (i + 1) n []
  | i, n + 1, (j, v) :: l => cond (Nat.beq i j) (v :: spread d (i + 1) n l) (d :: spread d (i + 1) n ((j, v) :: l))
def stq (n : Nat) (sl : List (Nat × AV)) (rt : List (Nat × Root)) : St := ⟨spread .undef 0 n sl, spread none 0 n (rt.map fun x => (x.1, some x.2))⟩
section
variable {C : Ctx} (func : FuncId → Option Func) (D : Den C) (n : Nat)
def bodyOf (f : FuncId) : Code :=
  match func f with
  | some fn => fn.body.getD .skip
  | none => .skip
def resOf (f : FuncId) : List ResultVar :=
  match func f with
  | some fn => fn.results.toList
  | none => []
def tmpsOf (f : FuncId) : Nat :=
  match func f with
  | some fn => fn.ntmps
  | none => 0
abbrev Out (C : Ctx) (f : FuncId) : Type := RDen (C.sig f).res × ODen (C.sig f).params
noncomputable def lastK (f : FuncId) : Ex → St → Option (Out C f) := fun e S =>
  match e with
  | .exit _ => none
  | _ => (gather C (C.sig f).res (resOf func f) S).bind fun r => (outs (C.hints f) 0 (C.sig f).params r.2).bind fun o => some (r.1, o)
noncomputable def rfC (f : FuncId) (a : PDen (C.sig f).params) : Option (Out C f) :=
  match func f with
  | none => none
  | some fn =>
    if fn.body.isSome && ((C.sig f).params.all PK.enterOk && (Nat.ble (C.sig f).params.length fn.ntmps && codeFrom (fixedSlots 0 (C.sig f).params) (bodyOf func f))) then
      execC C D (C.hints f) n (bodyOf func f) (enter ⟨List.replicate fn.ntmps .undef, List.replicate fn.ntmps none⟩ 0 (C.sig f).params a) (lastK func f)
    else none
noncomputable def LQ (f : FuncId) (p : List Dir) (m : Nat) (S : St) (K : Ex → St → Option (Out C f)) : Option (Out C f) :=
  match codeAt (bodyOf func f) p with
  | .loop b =>
    match (C.hints f).keep.lookup (firstReg b) with
    | some kp => loopC (execC C D (C.hints f) n b) (St.canon kp.1 kp.2.2) (St.canon kp.2.1 kp.2.2) m S K
    | none => none
  | _ => none
noncomputable def LK (f : FuncId) (p : List Dir) (m : Nat) (K : Ex → St → Option (Out C f)) : Ex → St → Option (Out C f) := fun e S =>
  match codeAt (bodyOf func f) p with
  | .loop b =>
    match (C.hints f).keep.lookup (firstReg b) with
    | some kp => match e with
      | .normal => LQ func D n f p m (St.canon kp.1 kp.2.2 S) K
      | e => K e (St.canon kp.2.1 kp.2.2 S)
    | none => none
  | _ => none
noncomputable def CQ (f : FuncId) (p q : List Dir) (K : Ex → St → Option (Out C f)) : Ex → St → Option (Out C f) :=
  contAt C D (C.hints f) n (codeAt (bodyOf func f) p) q K
theorem LQ_zero (f : FuncId) (p : List Dir) (S : St) (K : Ex → St → Option (Out C f)) : LQ func D n f p 0 S K = none := by
  unfold LQ
  split
  · split <;> rfl
  · rfl
theorem LQ_succ (f : FuncId) (p : List Dir) (m : Nat) (S : St) (K : Ex → St → Option (Out C f)) {b : Code} (hb : codeAt (bodyOf func f) p = .loop b) :
    LQ func D n f p (m + 1) S K = execC C D (C.hints f) n b S (LK func D n f p m K) ∨ LQ func D n f p (m + 1) S K = none := by
  unfold LQ
  rw [hb]
  simp only
  split
  · rename_i kp hk
    left
    simp only [loopC]
    congr 1
    funext e S
    unfold LK
    rw [hb]
    simp only [hk]
    cases e with
    | normal => unfold LQ; rw [hb]; simp only [hk]
    | exit id => rfl
    | ret => rfl
  · right; rfl
theorem runF_eq (f : FuncId) (a : PDen (C.sig f).params) : (match func f with
    | none => none
    | some fn => runF C D n fn (C.hints f) (C.sig f).params (C.sig f).res a) = rfC func D n f a := by
  unfold rfC
  split
  · rfl
  · rename_i fn hf
    unfold runF bodyOf lastK resOf
    rw [hf]
    simp only
    cases fn.body with
    | none => simp
    | some c => simp only [Option.isSome_some, Bool.true_and, Option.getD_some, exec_eq]; rfl
end
end Go.V

namespace Go.V
open Go Go.Proofs Go.RowKit Go.ChangeShapes
set_option maxRecDepth 100000
structure Ext where
  den : Den ctx
  is : FuncId → Bool
  ok : ∀ f, is f = true → FnOk Try.prog ctx den f
  call : ∀ f a r, is f = true → den f a = some r → Callable Try.prog f
noncomputable def DD (X : Ext) (n : Nat) : Den ctx := Dn ctx X.den X.is (fun g => Try.prog.funcs[g]?) n
theorem DD_ok (X : Ext) (n : Nat) : DOk Try.prog ctx (DD X n) := Dn_ok allTy mixed X.ok X.call noCount n
theorem DD_succ (X : Ext) {g : FuncId} {fn : Func} (hf : Try.prog.funcs[g]? = some fn) (ht : funcTab g = some fn) (hx : X.is g = false) (n : Nat) (a : PDen (ctx.sig g).params) :
    DD X (n + 1) g a = rfC funcTab (DD X n) n g a := by
  have := runF_eq funcTab (DD X n) n g a
  rw [ht] at this
  rw [← this]
  unfold DD
  simp only [Dn, hx, Bool.false_eq_true, if_false, hf]
theorem DD_ext (X : Ext) {g : FuncId} (hx : X.is g = true) (n : Nat) (a : PDen (ctx.sig g).params) : DD X (n + 1) g a = X.den g a := by
  unfold DD
  simp only [Dn, hx, if_true]
def noExt : Ext := ⟨fun _ _ => none, fun _ => false, fun _ h => by simp at h, fun _ _ _ h => by simp at h⟩
section
variable {H : Type} {enc : TypeId × Value → H} {P : Program}
theorem trodAll_below (hl : laidOutB P = true) {W W' : World} (hb : Below W.heap.size W W') : ∀ {ts : List TypeId} {vs : List Value} {ds : List (DataW H)} {ps : List MemPlace},
    ts.all (fun t => P.readableRec t && Nat.blt t P.types.size) = true → DataW.TrodAll enc P W 0 (fun _ => true) true ts vs ds ps → (∀ x ∈ ps, x.block < W.heap.size) →
    DataW.TrodAll enc P W' 0 (fun b => decide (b < W.heap.size)) true ts vs ds ps
  | [], _, _, _, _, h, _ => by
    obtain ⟨rfl, rfl, rfl⟩ := trodAll_nil h
    exact trodAll_mk0
  | t :: ts, _, _, _, ht, h, hlt => by
    obtain ⟨v, vs1, d, ds1, a, b, rfl, rfl, rfl, h1, h2⟩ := trodAll_cons h
    simp only [List.all_cons, Bool.and_eq_true] at ht
    exact ⟨a, b, Below.trod hl ht.1.1 (blt_lt.1 ht.1.2) h1 hb (fun x hx => hlt x (by simp [hx])), trodAll_below hl hb ht.2 h2 (fun x hx => hlt x (by simp [hx])), rfl⟩
end
theorem laid : laidOutB Try.prog = true := by kernel_rfl
theorem ownKnobs : ownKnob Try.prog.godebug = none := by kernel_rfl
theorem lifted_of {H : Type} {enc : TypeId × Value → H} {X : Ext} {f : FuncId} {fn : Func} {s : ChangeSpec} {conds : List PathCond} {tb : TypeId} {os : Os} (started : os.Started)
    (hfn : Try.prog.funcs[f]? = some fn) (hinit : Try.prog.inits.idxOf? f = none)
    (witness : ∃ (w : World) (tape : Tape) (i : Input), w.os = os ∧ (w.forCall tape i).Shaped Try.prog ∧ i.vars = [] ∧ Input.okWide Try.prog (w.forCall tape i) .any w.heap.size f i ∧
      s.pre6 enc Try.prog fn conds false (w.forCall tape i).memory i.args ∧ Assume.holds {} Try.prog (lone (Frame.enter Try.prog f i.args .normal) [] (w.forCall tape i)))
    (hps : valTys fn.params.toList (ctx.sig f).params ctx) (hrd : fn.params.toList.all (fun t => Try.prog.readableRec t && Nat.blt t Try.prog.types.size) = true)
    (hres : fn.resultTypes = #[tb]) (htb : Try.prog.underlying tb = some .bool) (hvars : s.vars = [])
    (hspec : ∀ ds : List (DataW H), ds.length = fn.params.size → (s.fn H ds).results = [.lit (.bool true)] ∧ (s.fn H ds).args = ds ∧ (s.fn H ds).vars = [])
    (hlaw : ∀ a, WfAll (ctx.sig f).params a → ∃ n r, DD X n f a = some r ∧ ∀ h Pr Gs us, RsRel h Pr Gs 0 (ctx.sig f).res r.1 us → us = [.bool true]) :
    ReturnsInHanded {} Try.checked os f .any (s.pre6 enc Try.prog fn conds false) (s.post enc Try.prog fn false true false false) := by
  refine returnsInHanded_of_change_sized (C := Try.checked) ownKnobs started hinit hfn witness ?_
  intro W base args ds gs before hval hW hcnd hsz _
  have hW' := hW
  have hlt := hW.lt
  obtain ⟨p, q, hA, hV, rfl, hfz, hnd⟩ := hW
  rw [hvars] at hV
  obtain ⟨rfl, rfl⟩ := trodVars_none hV
  obtain ⟨a, wa, ra⟩ := open_all allTy fn.params.toList (ctx.sig f).params args.toList ds p 0 hps hA (fun j t v ht hv => hval j t v (by simpa using ht) (by simpa using hv))
  obtain ⟨n, r, hr, hb⟩ := hlaw a wa
  have pre : Pre W.heap (Old W) (fun _ => Nil) (ctx.sig f).params a args.toList :=
    ⟨ra, fun _ _ _ => Dis.nil _, fun _ => Dis.nil _, fun _ b hb => hb.elim, fun b hb => hb⟩
  have hc := (DD_ok X n).ok f a r hr W (Old W) (fun _ => Nil) args.toList pre
  rw [Array.toArray_toList] at hc
  refine hc.mono ?_
  rintro e W' ⟨val, Pr', Gs, Os, us, rfl, ps⟩
  obtain rfl := hb _ _ _ _ ps.res
  have hv := ps.val
  simp only [resVal] at hv
  subst hv
  have bel := below_of ps.fr
  obtain ⟨e1, e2, e3⟩ := hspec (ds ++ []) (by rw [List.append_nil, (trodAll_length hA).2, Array.length_toList])
  refine ⟨_, rfl, ds, [], p ++ [], [], p, [], hW', ?_, ?_, ?_, bel.frame _, fun h => by cases h⟩
  · rw [e1, hres]
    exact trodAll_mk1 (shut_bool htb _)
  · rw [e2, List.append_nil]
    exact trodAll_below laid bel hrd hA (fun x hx => hlt x (by simp [hx]))
  · rw [e3, hvars]
    rfl
end Go.V


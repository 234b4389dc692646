import Derived.Test.YtfafjngknkbngaaAV1
set_option linter.unusedVariables false
set_option linter.unusedSimpArgs false
set_option linter.unusedSectionVars false
namespace Go.V
open Go
def Seen (sh : Bool) (S : St) (g : Ghost) : BS := if sh then g.Pr else Vis S g
theorem seen_pr (sh : Bool) (S : St) (g : Ghost) : Sub g.Pr (Seen sh S g) := by
  intro b hb; unfold Seen; split
  · exact hb
  · exact .inl hb
section
variable {h : Array Obj} {S : St} {g : Ghost} {tmps : Array Value} {H : BS} (st : StRel h S g tmps H)
include st
theorem rdC_sh : ∀ (t : Ty) {a : AV} {x : t.den} {c : List Value}, a.shared = true → rd S.rt t a = some x → AVC h S g a c → Rep h g.Pr t .no x c Nil
  | t, a, x, c, hs, hr, y => by
    cases a with
    | val t' x' =>
      have hc : castTo t' t x' = some x := by cases t <;> simpa only [rd] using hr
      simp only [AVC] at y
      exact (Rep.cast hc y).2
    | unit =>
      cases t with
      | unit => simp only [AVC] at y; simp only [Rep]; exact y
      | _ => simp [rd] at hr
    | pair u v =>
      cases t with
      | pair a b =>
        simp only [AV.shared, Bool.and_eq_true] at hs
        simp only [rd, Option.bind_eq_some_iff, Option.some.injEq] at hr
        obtain ⟨x1, h1, x2, h2, rfl⟩ := hr
        simp only [AVC] at y
        obtain ⟨ca, cb, rfl, y1, y2⟩ := y
        simp only [Rep]
        exact ⟨ca, cb, Nil, Nil, rfl, rdC_sh a hs.1 h1 y1, rdC_sh b hs.2 h2 y2, Sub.nil _, Sub.nil _, Dis.nil _⟩
      | _ => simp [rd] at hr
    | undef => cases t <;> simp [rd] at hr
    | brw r p s => simp [AV.shared] at hs
    | _ => simp only [AVC] at y
theorem rd_sh (t : Ty) {a : AV} {x : t.den} {v : Value} (hs : a.shared = true) (hr : rd S.rt t a = some x) (y : AVRel h S g a v) : ValRel h g.Pr t .no x v Nil := by
  cases a with
  | val t' x' =>
    have hc : castTo t' t x' = some x := by cases t <;> simpa only [rd] using hr
    simp only [AVRel] at y
    obtain ⟨c, r, rfl⟩ := y
    obtain ⟨rfl, r2⟩ := Rep.cast hc r
    exact ⟨c, r2, rfl⟩
  | litB b =>
    cases t with
    | bool =>
      simp only [rd, Option.some.injEq] at hr
      simp only [AVRel] at y
      subst hr; subst y
      exact ⟨[.bool b], by simp only [Rep], rfl⟩
    | _ => simp [rd] at hr
  | unit =>
    cases t with
    | unit => simp only [AVRel] at y; exact ⟨[], by simp only [Rep], by rw [y]; rfl⟩
    | _ => simp [rd] at hr
  | nils =>
    cases t with
    | sl e =>
      simp only [rd, Option.some.injEq] at hr
      simp only [AVRel] at y
      subst hr; subst y
      exact ⟨[.slice none 0 0], by simp only [Rep]; exact ⟨none, 0, by simp, by simp, by simp⟩, rfl⟩
    | _ => simp [rd] at hr
  | pair u w =>
    cases t with
    | pair a b =>
      simp only [AVRel] at y
      obtain ⟨ca, cb, rfl, y1, y2⟩ := y
      exact ⟨ca ++ cb, rdC_sh st (.pair a b) (a := .pair u w) hs hr (by simp only [AVC]; exact ⟨ca, cb, rfl, y1, y2⟩), rfl⟩
    | _ => simp [rd] at hr
  | brw r p s => simp [AV.shared] at hs
  | _ => cases t <;> simp [rd] at hr
theorem rd_seen {sh : Bool} (t : Ty) {a : AV} {x : t.den} {v : Value} (hs : sh = true → a.shared = true) (hr : rd S.rt t a = some x) (y : AVRel h S g a v) :
    ValRel h (Seen sh S g) t .no x v Nil := by
  cases sh with
  | true => exact rd_sh st t (hs rfl) hr y
  | false =>
    obtain ⟨c, e, r⟩ := rd_ok st t hr y
    exact ⟨c, r, e⟩
theorem raddr_pg {Pr : BS} (hp : Sub g.Pr Pr) {t : Ty} {x : t.den} {v : Value} (y : RaddrOk h g t x v) : RaddrOk h (PG Pr) t x v := by
  obtain ⟨b, o, cs, e, pb, hb, hs, r⟩ := y
  exact ⟨b, o, cs, e, hp b pb, hb, hs, Rep.mono hp (fun _ _ => rfl) t r (Sub.refl _) (fun _ _ => rfl)⟩
theorem addr_seen {r : Nat} {p : Path} {d : Dy} {v : Value} (hf : S.rt.focus r p = some d) (hw : d.ms.whole = true) (x : AVRel h S g (.addr r p) v) : RaddrOk h (PG (Vis S g)) d.ty d.x v := by
  simp only [Rts.focus] at hf
  split at hf
  · rename_i R hR
    simp only [AVRel] at x
    obtain ⟨h1, b, off, c, h2, h3⟩ := x R hR d hf
    obtain ⟨base, c', F, q1, q2, q3, q4, q5, _⟩ := st.update hR hf h1
    rw [h2] at q1
    simp only [Option.some.injEq, Prod.mk.injEq] at q1
    obtain ⟨rfl, rfl⟩ := q1
    have hisr : (S.root r).isSome := by show (S.rt.root r).isSome = true; rw [hR]; rfl
    obtain ⟨_, cs, hob, hs, hsub⟩ := q4 b off rfl
    have hl := Rep.width _ q2
    refine ⟨b, off, cs, h3, .inr ⟨r, hisr, q5 b off rfl⟩, hob.blk, by omega, ?_⟩
    rw [← hl, hsub]
    exact Rep.mono (fun b hb => hb.elim .inl (fun hb => .inr ⟨r, hisr, q3 b hb⟩)) (fun _ _ => rfl) _ (Rep.share _ hw q2) (Sub.refl _) (fun _ _ => rfl)
  · simp at hf
theorem caps_seen {sh : Bool} : ∀ {a : AV} {l : List CapV} {vs : List Value}, (sh = true → a.shared = true) → capsOf S.rt a = some l → TupRel h S g a vs → CapsOk h (PG (Seen sh S g)) l vs
  | .unit, l, vs, _, hc, y => by
    simp only [capsOf, Option.some.injEq] at hc
    subst hc
    simp only [TupRel] at y
    exact y
  | .pair u w, l, vs, hs, hc, y => by
    simp only [TupRel] at y
    obtain ⟨v, vs', rfl, y1, y2⟩ := y
    have hs2 : sh = true → w.shared = true := fun h => by have := hs h; simp only [AV.shared, Bool.and_eq_true] at this; exact this.2
    have hs1 : sh = true → u.shared = true := fun h => by have := hs h; simp only [AV.shared, Bool.and_eq_true] at this; exact this.1
    cases u with
    | addr r p =>
      simp only [capsOf] at hc
      split at hc
      · rename_i d hf
        split at hc
        · rename_i hw
          simp only [Option.bind_eq_some_iff, Option.some.injEq] at hc
          obtain ⟨l', hc, rfl⟩ := hc
          refine ⟨v, vs', rfl, ?_, caps_seen hs2 hc y2⟩
          cases sh with
          | true => have := hs1 rfl; simp [AV.shared] at this
          | false => exact addr_seen st hf hw y1
        · simp at hc
      · simp at hc
    | raddr t x =>
      simp only [capsOf, Option.bind_eq_some_iff, Option.some.injEq] at hc
      obtain ⟨l', hc, rfl⟩ := hc
      simp only [AVRel] at y1
      exact ⟨v, vs', rfl, raddr_pg st (seen_pr sh S g) y1, caps_seen hs2 hc y2⟩
    | val t x =>
      simp only [capsOf, Option.bind_eq_some_iff, Option.some.injEq] at hc
      obtain ⟨l', hc, rfl⟩ := hc
      simp only [AVRel] at y1
      obtain ⟨c, r, e⟩ := y1
      exact ⟨v, vs', rfl, ⟨c, Rep.mono (seen_pr sh S g) (fun _ _ => rfl) t r (Sub.refl _) (fun _ _ => rfl), e⟩, caps_seen hs2 hc y2⟩
    | _ => simp [capsOf] at hc
  | .undef, _, _, _, hc, _ => by simp [capsOf] at hc
  | .skip, _, _, _, hc, _ => by simp [capsOf] at hc
  | .litB _, _, _, _, hc, _ => by simp [capsOf] at hc
  | .nils, _, _, _, hc, _ => by simp [capsOf] at hc
  | .val _ _, _, _, _, hc, _ => by simp [capsOf] at hc
  | .brw _ _ _, _, _, _, hc, _ => by simp [capsOf] at hc
  | .view _ _ _ _ _, _, _, _, hc, _ => by simp [capsOf] at hc
  | .addr _ _, _, _, _, hc, _ => by simp [capsOf] at hc
  | .raddr _ _, _, _, _, hc, _ => by simp [capsOf] at hc
  | .tup _, _, _, _, hc, _ => by simp [capsOf] at hc
  | .clo _ _, _, _, _, hc, _ => by simp [capsOf] at hc
  | .cloV _, _, _, _, hc, _ => by simp [capsOf] at hc
theorem caps_pg {Pr : BS} (hp : Sub g.Pr Pr) : ∀ {l : List CapV} {vs : List Value}, CapsOk h g l vs → CapsOk h (PG Pr) l vs
  | [], _, y => y
  | c :: l, _, y => by
    obtain ⟨v, vs', e, h1, h2⟩ := y
    refine ⟨v, vs', e, ?_, caps_pg hp h2⟩
    cases c with
    | val t x => obtain ⟨c, r, e⟩ := h1; exact ⟨c, Rep.mono hp (fun _ _ => rfl) t r (Sub.refl _) (fun _ _ => rfl), e⟩
    | rptr t x => exact raddr_pg st hp h1
def LsRel (h : Array Obj) (Pr : BS) (Fs : Nat → BS) : Nat → (ks : List PK) → ODen ks → List Value → Prop
  | _, [], _, vs => vs = []
  | i, .mutp t m _ :: ks, o, vs => ∃ v vs', vs = v :: vs' ∧ PtrRel h Pr t m o.1 v (Fs i) ∧ LsRel h Pr Fs (i + 1) ks o.2 vs'
  | i, .mutv t m _ :: ks, o, vs => ∃ v vs', vs = v :: vs' ∧ ValRel h Pr t m o.1 v (Fs i) ∧ LsRel h Pr Fs (i + 1) ks o.2 vs'
  | i, .val _ :: ks, o, vs => ∃ v vs', vs = v :: vs' ∧ LsRel h Pr Fs (i + 1) ks o vs'
  | i, .own _ _ :: ks, o, vs => ∃ v vs', vs = v :: vs' ∧ LsRel h Pr Fs (i + 1) ks o vs'
  | i, .rptr _ :: ks, o, vs => ∃ v vs', vs = v :: vs' ∧ LsRel h Pr Fs (i + 1) ks o vs'
  | i, .fn :: ks, o, vs => ∃ v vs', vs = v :: vs' ∧ LsRel h Pr Fs (i + 1) ks o vs'
theorem argDen_ok {sh : Bool} {Fs : Nat → BS} : ∀ (ks : List PK) (avs : List AV) (vs : List Value) (i : Nat) (gd : GDen ks) (od : ODen ks) (a : PDen ks), (sh = true → sharedArgs ks avs = true) →
    AsRel h S g avs vs → GsRel h g.Pr Fs i ks gd vs → LsRel h g.Pr Fs i ks od vs → argDen S.rt ks avs gd od = some a → PsRel h (Seen sh S g) Fs i ks a vs
  | [], avs, vs, i, gd, od, a, _, ha, hg, _, hd => by
    simp only [GsRel] at hg
    exact hg
  | k :: ks, [], vs, i, gd, od, a, _, ha, hg, _, hd => by cases k <;> simp [argDen] at hd
  | k :: ks, u :: avs, vs, i, gd, od, a, hs, ha, hg, hl, hd => by
    obtain ⟨v, vs', rfl, r1, r2⟩ := ha
    have hs2 : sh = true → sharedArgs ks avs = true := fun e => by have := hs e; simp only [sharedArgs, Bool.and_eq_true] at this; exact this.2
    have hs1 : sh = true → k.plain = true → u.shared = true := fun e e2 => by
      have := hs e
      simp only [sharedArgs, Bool.and_eq_true, Bool.or_eq_true, Bool.not_eq_true'] at this
      rcases this.1 with h3 | h3
      · rw [e2] at h3; simp at h3
      · exact h3
    cases k with
    | val t =>
      simp only [argDen, Option.bind_eq_some_iff, Option.some.injEq] at hd
      obtain ⟨x, hx, r, hr, rfl⟩ := hd
      obtain ⟨_, _, e, hg⟩ := hg
      obtain ⟨_, _, e2, hl⟩ := hl
      simp only [List.cons.injEq] at e e2
      obtain ⟨rfl, rfl⟩ := e
      obtain ⟨-, rfl⟩ := e2
      exact ⟨v, vs', rfl, rd_seen st t (fun e => hs1 e rfl) hx r1, argDen_ok ks avs vs' (i + 1) gd od r hs2 r2 hg hl hr⟩
    | own t m =>
      simp only [argDen, Option.bind_eq_some_iff, Option.some.injEq] at hd
      obtain ⟨r, hr, rfl⟩ := hd
      obtain ⟨_, _, e, hv, hg⟩ := hg
      obtain ⟨_, _, e2, hl⟩ := hl
      simp only [List.cons.injEq] at e e2
      obtain ⟨rfl, rfl⟩ := e
      obtain ⟨-, rfl⟩ := e2
      exact ⟨v, vs', rfl, hv.mono (seen_pr sh S g), argDen_ok ks avs vs' (i + 1) gd.2 od r hs2 r2 hg hl hr⟩
    | mutp t m m' =>
      simp only [argDen, Option.bind_eq_some_iff, Option.some.injEq] at hd
      obtain ⟨r, hr, rfl⟩ := hd
      obtain ⟨_, _, e, hg⟩ := hg
      obtain ⟨_, _, e2, hv, hl⟩ := hl
      simp only [List.cons.injEq] at e e2
      obtain ⟨rfl, rfl⟩ := e
      obtain ⟨rfl, rfl⟩ := e2
      refine ⟨v, vs', rfl, ?_, argDen_ok ks avs vs' (i + 1) gd od.2 r hs2 r2 hg hl hr⟩
      obtain ⟨b, c, F0, e, r, k⟩ := hv
      exact ⟨b, c, F0, e, Rep.mono (seen_pr sh S g) (fun _ _ => rfl) t r (Sub.refl _) (fun _ _ => rfl), k⟩
    | mutv t m m' =>
      simp only [argDen, Option.bind_eq_some_iff, Option.some.injEq] at hd
      obtain ⟨r, hr, rfl⟩ := hd
      obtain ⟨_, _, e, hg⟩ := hg
      obtain ⟨_, _, e2, hv, hl⟩ := hl
      simp only [List.cons.injEq] at e e2
      obtain ⟨rfl, rfl⟩ := e
      obtain ⟨rfl, rfl⟩ := e2
      exact ⟨v, vs', rfl, hv.mono (seen_pr sh S g), argDen_ok ks avs vs' (i + 1) gd od.2 r hs2 r2 hg hl hr⟩
    | rptr t =>
      obtain ⟨_, _, e, hg⟩ := hg
      obtain ⟨_, _, e2, hl⟩ := hl
      simp only [List.cons.injEq] at e e2
      obtain ⟨rfl, rfl⟩ := e
      obtain ⟨-, rfl⟩ := e2
      cases u with
      | raddr t' x =>
        simp only [argDen, Option.bind_eq_some_iff, Option.some.injEq] at hd
        obtain ⟨y, hc, r, hr, rfl⟩ := hd
        simp only [AVRel] at r1
        obtain ⟨e1, e2⟩ := castTo_some hc
        subst e1
        simp only at e2
        subst e2
        exact ⟨v, vs', rfl, raddr_pg st (seen_pr sh S g) r1, argDen_ok ks avs vs' (i + 1) gd od r hs2 r2 hg hl hr⟩
      | addr q p =>
        simp only [argDen] at hd
        split at hd
        · rename_i d hf
          split at hd
          · rename_i hw
            simp only [Option.bind_eq_some_iff, Option.some.injEq] at hd
            obtain ⟨y, hc, r, hr, rfl⟩ := hd
            refine ⟨v, vs', rfl, ?_, argDen_ok ks avs vs' (i + 1) gd od r hs2 r2 hg hl hr⟩
            obtain ⟨dt, dm, dx⟩ := d
            simp only at hc hw
            obtain ⟨e1, e2⟩ := castTo_some hc
            subst e1
            simp only at e2
            subst e2
            cases sh with
            | true => have := hs1 rfl rfl; simp [AV.shared] at this
            | false => exact addr_seen st hf hw r1
          · simp at hd
        · simp at hd
      | _ => simp [argDen] at hd
    | fn =>
      obtain ⟨_, _, e, hg⟩ := hg
      obtain ⟨_, _, e2, hl⟩ := hl
      simp only [List.cons.injEq] at e e2
      obtain ⟨rfl, rfl⟩ := e
      obtain ⟨-, rfl⟩ := e2
      cases u with
      | clo f caps =>
        simp only [argDen, Option.bind_eq_some_iff, Option.some.injEq] at hd
        obtain ⟨l, hc, r, hr, rfl⟩ := hd
        simp only [AVRel] at r1
        obtain ⟨ws, e, ht⟩ := r1
        exact ⟨v, vs', rfl, ⟨ws, e, caps_seen st (fun e => by have := hs1 e rfl; simpa [AV.shared] using this) hc ht⟩, argDen_ok ks avs vs' (i + 1) gd od r hs2 r2 hg hl hr⟩
      | cloV c =>
        simp only [argDen, Option.bind_eq_some_iff, Option.some.injEq] at hd
        obtain ⟨r, hr, rfl⟩ := hd
        simp only [AVRel] at r1
        obtain ⟨ws, e, ht⟩ := r1
        exact ⟨v, vs', rfl, ⟨ws, e, caps_pg st (seen_pr sh S g) ht⟩, argDen_ok ks avs vs' (i + 1) gd od r hs2 r2 hg hl hr⟩
      | _ => simp [argDen] at hd
end
end Go.V

namespace Go.V
open Go
theorem RsRel.conv {h : Array Obj} {Pr Pr2 : BS} {Gs : Nat → BS} : ∀ (rs : List RK) (i : Nat) {r : RDen rs} {us : List Value}, (Sub Pr Pr2 ∨ rs.all RK.full = true) → RsRel h Pr Gs i rs r us → RsRel h Pr2 Gs i rs r us
  | [], _, _, _, _, k => k
  | q :: rs, i, r, us, hc, k => by
    obtain ⟨v, vs', e, k1, k2⟩ := k
    have hc2 : Sub Pr Pr2 ∨ rs.all RK.full = true := hc.imp id fun h => by simp only [List.all_cons, Bool.and_eq_true] at h; exact h.2
    refine ⟨v, vs', e, ?_, RsRel.conv rs (i + 1) hc2 k2⟩
    have conv : ∀ (t : Ty) (m : Mk) (x : t.den) (c : List Value) (F : BS), (m.full t = true ∨ Sub Pr Pr2) → Rep h Pr t m x c F → Rep h Pr2 t m x c F := fun t m x c F hh rr =>
      hh.elim (fun h => Rep.fullMk t h rr) (fun h => Rep.mono h (fun _ _ => rfl) t rr (Sub.refl _) (fun _ _ => rfl))
    have hf : q.ms.full q.ty = true ∨ Sub Pr Pr2 := hc.symm.imp (fun h => by simp only [List.all_cons, Bool.and_eq_true] at h; cases q <;> exact h.1) id
    cases q with
    | val t m => obtain ⟨c, rr, e⟩ := k1; exact ⟨c, conv t m _ c _ hf rr, e⟩
    | ptr t m => obtain ⟨b, c, F0, e, rr, k⟩ := k1; exact ⟨b, c, F0, e, conv t m _ c _ hf rr, k⟩
theorem back_ok {w w' : World} {sl : List AV} {rt : Rts} {g : Ghost} {tmps : Array Value} {H : BS} (st : StRel w.heap ⟨sl, rt⟩ g tmps H) {Fs : Nat → BS} (hF : ∀ i, Sub (Fs i) H)
    {sh : Bool} {ks : List PK} {rs : List RK} {r : RDen rs} {o : ODen ks} {vs : List Value} {val : Value} {Pr' : BS} {Gs Os : Nat → BS} {us : List Value}
    (p : Pst w w' (Seen sh ⟨sl, rt⟩ g) Fs ks rs r o vs val Pr' Gs Os us) (hfull : sh = false → rs.all RK.full = true) :
    ∃ g3 H3, StRel w'.heap ⟨sl, rt⟩ g3 tmps H3 ∧ RsRel w'.heap g3.Pr Gs 0 rs r us ∧ (∀ i, Sub (Gs i) H3) ∧ g3.Same g := by
  have hk : ∀ b, b < w.heap.size → ¬ H b → w'.heap[b]? = w.heap[b]? := fun b hb hn => p.fr.block b hb (by
    rintro (h1 | ⟨i, h1⟩)
    · omega
    · exact hn (hF i b h1))
  have st1 := st.handWrite hk p.fr.size (fun b => H b ∨ (w.heap.size ≤ b ∧ b < w'.heap.size)) (fun b hb => hb)
  have hMay : ∀ b, May w.heap.size Fs b → b < w'.heap.size → H b ∨ (w.heap.size ≤ b ∧ b < w'.heap.size) := by
    rintro b (h1 | ⟨i, h1⟩) h2
    · exact .inr ⟨h1, h2⟩
    · exact .inl (hF i b h1)
  cases sh with
  | false =>
    exact ⟨g, _, st1, RsRel.conv rs 0 (.inr (hfull rfl)) p.res, fun i b hb => hMay b (p.gL i b hb) (p.glim i b hb), .refl _⟩
  | true =>
    have hD : Sub (fun b => Pr' b ∧ ¬ g.Pr b) (fun b => H b ∨ (w.heap.size ≤ b ∧ b < w'.heap.size)) := by
      rintro b ⟨h1, h2⟩
      rcases p.prL b h1 with h3 | h3
      · exact absurd h3 h2
      · exact hMay b h3 (p.plim b h1)
    refine ⟨_, _, st1.shareHand _ hD, RsRel.conv rs 0 (.inl ?_) p.res, fun i b hb => ⟨hMay b (p.gL i b hb) (p.glim i b hb), fun h => p.gp i b hb h.1⟩, ⟨rfl, rfl, rfl⟩⟩
    intro b hb
    by_cases h1 : g.Pr b
    · exact .inl h1
    · exact .inr ⟨hb, h1⟩
def vsOf : List RK → List Value → List Value
  | [], _ => []
  | k :: ks, c => mkV k.ty (c.take k.ty.width) :: vsOf ks (c.drop k.ty.width)
theorem res_rep {h : Array Obj} {Pr : BS} {Gs : Nat → BS} (hd : ∀ i j, i ≠ j → Dis (Gs i) (Gs j)) : ∀ (rs : List RK) (i : Nat) {r : RDen rs} {us : List Value}, rs.all (fun k => !k.isPtr && k.ty.nz) = true → RsRel h Pr Gs i rs r us →
    ∃ c F, Rep h Pr (resTy rs) (resMk rs) (resX rs r) c F ∧ (∀ b, F b → ∃ j, i ≤ j ∧ Gs j b) ∧ us = vsOf rs c
  | [], i, r, us, _, k => ⟨[], Nil, by simp only [resTy, Rep], fun b h => h.elim, k⟩
  | .ptr t m :: rs, i, r, us, hp, k => by simp [RK.isPtr] at hp
  | .val t m :: rs, i, r, us, hp, k => by
    simp only [List.all_cons, Bool.and_eq_true] at hp
    obtain ⟨v, vs', rfl, ⟨c1, r1, rfl⟩, k2⟩ := k
    obtain ⟨c2, F2, r2, hF2, rfl⟩ := res_rep hd rs (i + 1) hp.2 k2
    refine ⟨c1 ++ c2, Un (Gs i) F2, ?_, ?_, ?_⟩
    · simp only [resTy, resMk, resX, Rep, Mk.fst, Mk.snd]
      refine ⟨c1, c2, Gs i, F2, rfl, r1, r2, fun b hb => .inl hb, fun b hb => .inr hb, ?_⟩
      intro b h1 h2
      obtain ⟨j, hj, h3⟩ := hF2 b h2
      exact hd i j (by omega) b h1 h3
    · rintro b (hb | hb)
      · exact ⟨i, Nat.le_refl _, hb⟩
      · obtain ⟨j, hj, h3⟩ := hF2 b hb; exact ⟨j, by omega, h3⟩
    · have hl := Rep.width t r1
      simp only [vsOf, RK.ty]
      rw [List.take_left' hl, List.drop_left' hl]
theorem tupV_ok {h : Array Obj} {S : St} {g : Ghost} : ∀ (rs : List RK) {x : (resTy rs).den} {c : List Value} {F : BS}, Rep h g.Pr (resTy rs) .no x c F → TupRel h S g (tupV (resTy rs) x) (vsOf rs c)
  | [], x, c, F, r => by simp only [resTy, tupV, TupRel, vsOf]
  | k :: rs, x, c, F, r => by
    simp only [resTy, Rep] at r
    obtain ⟨ca, cb, Fa, Fb, rfl, ra, rb, _⟩ := r
    have hl := Rep.width _ ra
    simp only [resTy, tupV, TupRel, vsOf]
    rw [List.take_left' hl, List.drop_left' hl]
    refine ⟨_, _, rfl, ?_, tupV_ok rs rb⟩
    simp only [AVRel]
    exact ⟨ca, Rep.no_room (m := .no) _ rfl ra, rfl⟩
theorem tup_ok {h : Array Obj} {S : St} {g : Ghost} {r : Nat} {R : Root} (hR : S.root r = some R) : ∀ (rs : List RK) (p : Path) (m : Mk) (x : (resTy rs).den) (base : Base) (c : List Value) (F : BS),
    focus R.ty R.ms R.x p = some ⟨resTy rs, m, x⟩ → inR R.ty R.x p → atP h R.ty (g.C r) (g.base r) p = some (base, c) → Rep h g.Pr (resTy rs) m x c F → rs.all (fun k => !k.isPtr && k.ty.nz) = true →
    TupRel h S g (tupAV (avOf r (resTy rs) m x p)) (vsOf rs c)
  | [], p, m, x, base, c, F, _, _, _, _, _ => by simp only [resTy, avOf, tupAV, TupRel, vsOf]
  | k :: rs, p, m, x, base, c, F, hf, hin, hat, rep, hall => by
    simp only [List.all_cons, Bool.and_eq_true] at hall
    simp only [resTy, avOf]
    by_cases hs : m.still = true
    · rw [if_pos hs]
      have := tupV_ok (S := S) (k :: rs) (Rep.no_room (F' := Nil) _ hs rep)
      exact this
    · rw [if_neg hs]
      have rep' := rep
      simp only [resTy, Rep] at rep'
      obtain ⟨ca, cb, Fa, Fb, rfl, ra, rb, _⟩ := rep'
      have hl := Rep.width _ ra
      have hfa : focus R.ty R.ms R.x (p ++ [.fst]) = some ⟨k.ty, m.fst, x.1⟩ := by
        rw [focus_app p _ hf]; simp only [resTy, focus]
      have hfb : focus R.ty R.ms R.x (p ++ [.snd]) = some ⟨resTy rs, m.snd, x.2⟩ := by
        rw [focus_app p _ hf]; simp only [resTy, focus]
      have hia : inR R.ty R.x (p ++ [.fst]) := (inR_app p _ hf).2 ⟨hin, by simp only [resTy, inR]⟩
      have hib : inR R.ty R.x (p ++ [.snd]) := (inR_app p _ hf).2 ⟨hin, by simp only [resTy, inR]⟩
      have haa : atP h R.ty (g.C r) (g.base r) (p ++ [.fst]) = some (base, ca) := by
        rw [atP_app p _ hf hat]; simp only [resTy, atP]; rw [List.take_left' hl]
      have hab : atP h R.ty (g.C r) (g.base r) (p ++ [.snd]) = some (base.map fun x => (x.1, x.2 + k.ty.width), cb) := by
        rw [atP_app p _ hf hat]; simp only [resTy, atP]; rw [List.drop_left' hl]
      simp only [tupAV, TupRel, vsOf]
      rw [List.take_left' hl, List.drop_left' hl]
      refine ⟨_, _, rfl, AVC.rel ra (avOf_ok hR _ _ _ _ _ _ _ hfa hia haa ra) (Ty.nz_unit hall.1.2), ?_⟩
      exact tup_ok hR rs (p ++ [.snd]) m.snd x.2 _ cb Fb hfb hib hab rb hall.2
theorem resVal_many {a b : RK} {rs : List RK} {c : List Value} : resVal (vsOf (a :: b :: rs) c) = .tuple (vsOf (a :: b :: rs) c).toArray := by
  simp only [vsOf, resVal]
theorem layRes_ok {h : Array Obj} {S : St} {rt1 : Rts} {g : Ghost} {tmps : Array Value} {H : BS} (st : StRel h ⟨S.sl, rt1⟩ g tmps H) {Gs : Nat → BS} (hG : ∀ i, Sub (Gs i) H) (hd : ∀ i j, i ≠ j → Dis (Gs i) (Gs j))
    {A : Asks} {d : Option Nat} {site : Nat} (ok : AOk A S d site) : ∀ (rs : List RK) {r : RDen rs} {us : List Value} {β : Bool} {v : AV} {rt' : Rts}, RsRel h g.Pr Gs 0 rs r us →
    (layRes A rt1 d site rs r).dec β = some (v, rt') → ∃ g', StRel h ⟨S.sl, rt'⟩ g' tmps Nil ∧ AVRel h ⟨S.sl, rt'⟩ g' v (resVal us) ∧ g'.Same g
  | [], r, us, β, v, rt', k, e => by
    simp only [RsRel] at k
    subst k
    simp only [layRes, Tr.dec, Option.some.injEq, Prod.mk.injEq] at e
    obtain ⟨rfl, rfl⟩ := e
    refine ⟨g, st.lessHand (Sub.nil _), ?_, .refl _⟩
    simp only [AVRel, resVal]
    exact ⟨[], rfl, by simp only [TupRel]⟩
  | [.val t m], r, us, β, v, rt', k, e => by
    obtain ⟨u, vs', rfl, ⟨c, rr, rfl⟩, k2⟩ := k
    simp only [RsRel] at k2
    subst k2
    simp only [layRes] at e
    by_cases hm : m.tagFree = true
    · rw [if_pos hm] at e
      obtain ⟨g', s1, s2, s3⟩ := lay_val st rr (TagC.tagFree _ hm) (hG 0) ok e
      exact ⟨g', s1, s2, s3⟩
    · rw [if_neg hm] at e; simp [Tr.dec] at e
  | [.ptr t m], r, us, β, v, rt', k, e => by
    obtain ⟨u, vs', rfl, ⟨b, c, F0, rfl, rr, ho, hb, hF0, hn⟩, k2⟩ := k
    simp only [RsRel] at k2
    subst k2
    simp only [layRes] at e
    by_cases hm : m.tagFree = true
    · rw [if_pos hm] at e
      obtain ⟨g', s1, s2, s3⟩ := lay_mem st rr (TagC.tagFree _ hm) (fun x hx => hG 0 x (hF0 x hx)) (hG 0 b hb) hn ho ok e
      exact ⟨g', s1, s2, s3⟩
    · rw [if_neg hm] at e; simp [Tr.dec] at e
  | q1 :: q2 :: rs, r, us, β, v, rt', k, e => by
    have e' : (layMany A rt1 d site (q1 :: q2 :: rs) r).dec β = some (v, rt') := by
      cases q1 <;> simpa only [layRes] using e
    unfold layMany at e'
    by_cases hc : ((resMk (q1 :: q2 :: rs)).tagFree && (q1 :: q2 :: rs).all (fun k => !k.isPtr && k.ty.nz)) = true
    · rw [if_pos hc] at e'
      simp only [Bool.and_eq_true] at hc
      obtain ⟨c, F, rep, hF, rfl⟩ := res_rep hd _ 0 hc.2 k
      have hFH : Sub F H := fun b hb => by obtain ⟨j, _, h3⟩ := hF b hb; exact hG j b h3
      rw [resVal_many]
      cases d with
      | none =>
        simp only [Tr.dec, Option.some.injEq, Prod.mk.injEq] at e'
        obtain ⟨rfl, rfl⟩ := e'
        exact ⟨g, st.lessHand (Sub.nil _), by simp only [AVRel], .refl _⟩
      | some d =>
        simp only at e'
        cases hl : layT A rt1 (some d) site (resTy (q1 :: q2 :: rs)) (resMk (q1 :: q2 :: rs)) (resX (q1 :: q2 :: rs) r) false with
        | ret z =>
          obtain ⟨v1, rt2⟩ := z
          rw [hl] at e'
          simp only [Tr.dec, Option.some.injEq, Prod.mk.injEq] at e'
          obtain ⟨rfl, rfl⟩ := e'
          simp only [layT, Bool.false_eq_true, if_false] at hl
          split at hl
          · simp at hl
          · rename_i hn
            simp only [Bool.or_eq_true, Bool.not_eq_true', not_or, Bool.not_eq_false, blt_lt] at hn
            split at hl
            · rename_i hs
              simp only [Tr.ret.injEq, Prod.mk.injEq] at hl
              obtain ⟨rfl, rfl⟩ := hl
              refine ⟨g, st.lessHand (Sub.nil _), ?_, .refl _⟩
              simp only [AVRel]
              exact ⟨_, rfl, tupV_ok _ (Rep.no_room (F' := Nil) _ hs rep)⟩
            · split at hl
              · rename_i hcc
                simp only [Tr.ret.injEq, Prod.mk.injEq] at hl
                obtain ⟨rfl, rfl⟩ := hl
                have rep' := (Rep.stamp (h := h) (Pr := g.Pr) site _).1 rep
                have key : ∀ u, ((⟨S.sl, rt1⟩ : St).get u).roots.contains d = false ∨ (∃ lo hi, ((⟨S.sl, rt1⟩ : St).get u).stampsOk lo hi = true ∧ ((⟨S.sl, rt1⟩ : St).get u).noPl d = true ∧ ((resMk (q1 :: q2 :: rs)).stamp site).fresh lo hi ∧ (none : Option Nat) = none) := by
                  intro u
                  simp only [Bool.or_eq_true, Bool.and_eq_true] at hcc
                  rcases hcc with hcc | ⟨⟨hc1, hc2⟩, hc3⟩
                  · exact .inl (ok.men hcc d rfl u)
                  · exact .inr ⟨site, site + 1, (ok.fr hc1).2 u, ok.pl hc3 d rfl u, Mk.fresh_stamp site hc2, rfl⟩
                obtain ⟨g', s1, s2, s3, s4, s5, s6⟩ := st.newRoot hn.1 rep' (TagC.stamp hn.2 _ (TagC.tagFree _ hc.1)) hFH none (fun b hb => by simp at hb) key
                refine ⟨g', s1.lessHand (Sub.nil _), ?_, s3⟩
                have hR : (⟨S.sl, rt1.setRoot d (some ⟨resTy (q1 :: q2 :: rs), (resMk (q1 :: q2 :: rs)).stamp site, resX (q1 :: q2 :: rs) r, false⟩)⟩ : St).root d = some ⟨resTy (q1 :: q2 :: rs), (resMk (q1 :: q2 :: rs)).stamp site, resX (q1 :: q2 :: rs) r, false⟩ := by
                  have := St.root_setRoot (⟨S.sl, rt1⟩ : St) d (some ⟨resTy (q1 :: q2 :: rs), (resMk (q1 :: q2 :: rs)).stamp site, resX (q1 :: q2 :: rs) r, false⟩) d
                  rw [if_pos ⟨rfl, hn.1⟩] at this; exact this
                simp only [AVRel]
                refine ⟨_, rfl, ?_⟩
                refine tup_ok hR (q1 :: q2 :: rs) [] _ _ (g'.base d) c F (focus_nil _ _ _) (inR_nil _ _) ?_ (by rw [s2]; exact rep') hc.2
                rw [s4]; exact atP_nil _ _ _ _
              · simp at hl
        | _ => rw [hl] at e'; simp [Tr.dec] at e'
    · rw [if_neg hc] at e'; simp [Tr.dec] at e'
end Go.V

namespace Go.V
open Go
theorem argLend_none {h : Array Obj} {Pr : BS} {Fs : Nat → BS} : ∀ (ks : List PK) (avs : List AV) (vs : List Value) (i : Nat) (rt rt2 : Rts) (od : ODen ks) {S : St} {g : Ghost}, ks.all (fun k => !k.lends) = true →
    AsRel h S g avs vs → argLend rt ks avs = some (od, rt2) → rt2 = rt ∧ LsRel h Pr Fs i ks od vs
  | [], avs, vs, i, rt, rt2, od, S, g, _, ha, hb => by
    cases avs with
    | nil =>
      simp only [argLend, Option.some.injEq, Prod.mk.injEq] at hb
      exact ⟨hb.2.symm, ha⟩
    | cons a avs => simp [argLend] at hb
  | k :: ks, [], vs, i, rt, rt2, od, S, g, _, ha, hb => by cases k <;> simp [argLend] at hb
  | k :: ks, a :: avs, vs, i, rt, rt2, od, S, g, hn, ha, hb => by
    simp only [List.all_cons, Bool.and_eq_true] at hn
    obtain ⟨v, vs', rfl, r1, r2⟩ := ha
    cases k with
    | mutp t m m' => simp [PK.lends] at hn
    | mutv t m m' => simp [PK.lends] at hn
    | val t => obtain ⟨e, k⟩ := argLend_none (Fs := Fs) ks avs vs' (i + 1) rt rt2 od hn.2 r2 (by simpa only [argLend] using hb); exact ⟨e, v, vs', rfl, k⟩
    | own t m => obtain ⟨e, k⟩ := argLend_none (Fs := Fs) ks avs vs' (i + 1) rt rt2 od hn.2 r2 (by simpa only [argLend] using hb); exact ⟨e, v, vs', rfl, k⟩
    | rptr t => obtain ⟨e, k⟩ := argLend_none (Fs := Fs) ks avs vs' (i + 1) rt rt2 od hn.2 r2 (by simpa only [argLend] using hb); exact ⟨e, v, vs', rfl, k⟩
    | fn => obtain ⟨e, k⟩ := argLend_none (Fs := Fs) ks avs vs' (i + 1) rt rt2 od hn.2 r2 (by simpa only [argLend] using hb); exact ⟨e, v, vs', rfl, k⟩
theorem vis_lim {h : Array Obj} {S : St} {g : Ghost} {tmps : Array Value} {H : BS} (st : StRel h S g tmps H) (sh : Bool) : ∀ b, Seen sh S g b → b < h.size := by
  intro b hb
  unfold Seen at hb
  split at hb
  · exact st.limPr b hb
  · rcases hb with hb | ⟨r, h1, h2⟩
    · exact st.limPr b hb
    · exact st.limG r b h1 h2
theorem vis_dis {h : Array Obj} {S : St} {g : Ghost} {tmps : Array Value} {H : BS} (st : StRel h S g tmps H) (sh : Bool) : Dis H (Seen sh S g) := by
  intro b hH hb
  unfold Seen at hb
  split at hb
  · exact st.handPr b hH hb
  · rcases hb with hb | ⟨r, h1, h2⟩
    · exact st.handPr b hH hb
    · exact st.hand r h1 b h2 hH
section
variable {P : Program} {C : Ctx} {D : Den C} {S : St} {g : Ghost} {w : World} {tmps : Array Value}
variable {A : Asks} {site : Nat} (dok : DOk P C D) (st : StRel w.heap S g tmps Nil)
include dok st
theorem callPlain_ok {f : FuncId} {avs : List AV} {vs : List Value} {d : Option Nat} (ok : AOk A S d site) (ha : AsRel w.heap S g avs vs) {gd : GDen (C.sig f).params} {rt1 : Rts}
    (h1 : argOwn S.rt (C.sig f).params avs = some (gd, rt1)) (hn : (C.sig f).params.all (fun k => !k.lends) = true) {od : ODen (C.sig f).params} {rt2 : Rts}
    (h2 : argLend rt1 (C.sig f).params avs = some (od, rt2)) {a : PDen (C.sig f).params} (h3 : argDen rt2 (C.sig f).params avs gd od = some a)
    (hs : sharedArgs (C.sig f).params avs = true ∨ (C.sig f).full = true) {r : RDen (C.sig f).res × ODen (C.sig f).params} (hD : D f a = some r) {β : Bool} {v : AV} {rt' : Rts}
    (he : (layRes A rt1 d site (C.sig f).res r.1).dec β = some (v, rt')) :
    Calls P f vs.toArray w fun e w' => ∃ val, e = .returned val ∧ Post S g w tmps v rt' val w' := by
  obtain ⟨g1, H1, Fs, k1, k2, k3, k4, k5, k6, k7, k8, k9, k10⟩ := argOwn_ok (sl := S.sl) (C.sig f).params avs vs S.rt g Nil 0 gd rt1 ha st h1
  obtain ⟨e2, hL⟩ := argLend_none (h := w.heap) (Pr := g1.Pr) (Fs := Fs) (C.sig f).params avs vs 0 rt1 rt2 od hn ha h2
  subst e2
  have hps := argDen_ok (S := ⟨S.sl, rt2⟩) k1 (sh := sharedArgs (C.sig f).params avs) (Fs := Fs) (C.sig f).params avs vs 0 gd od a (fun h => h) (ha.kp k2) k5 hL h3
  have pre : Pre w.heap (Seen (sharedArgs (C.sig f).params avs) ⟨S.sl, rt2⟩ g1) Fs (C.sig f).params a vs :=
    ⟨hps, k8, fun i b hb => vis_dis k1 _ b (k7 i b hb), fun i b hb => k1.limH b (k7 i b hb), vis_lim k1 _⟩
  refine (dok.ok f a r hD w _ Fs vs pre).mono ?_
  rintro e w' ⟨val, Pr', Gs, Os, us, rfl, p⟩
  obtain ⟨g3, H3, q1, q2, q3, q4⟩ := back_ok k1 k7 p (fun h => by
    rcases hs with h5 | h5
    · rw [h] at h5; simp at h5
    · simp only [Sig.full, Bool.and_eq_true] at h5; exact h5.2)
  obtain ⟨g4, s1, s2, s3⟩ := layRes_ok q1 q3 p.gdis ok (C.sig f).res q2 he
  refine ⟨val, rfl, g4, s1, by rw [p.val]; exact s2, (k3.trans q4).trans s3, p.fr.mono ?_⟩
  rintro b hb (h | ⟨i, h⟩)
  · omega
  · have := k1.ownH b (k7 i b h)
    rw [k3.2.1] at this; exact this
end
end Go.V

namespace Go.V
open Go
theorem argOwn_none : ∀ (ks : List PK) (avs : List AV) (rt rt1 : Rts) (gd : GDen ks), ks.all (fun k => !k.gives) = true → argOwn rt ks avs = some (gd, rt1) → rt1 = rt
  | [], avs, rt, rt1, gd, _, hb => by
    cases avs with
    | nil => simp only [argOwn, Option.some.injEq, Prod.mk.injEq] at hb; exact hb.2.symm
    | cons a avs => simp [argOwn] at hb
  | k :: ks, [], rt, rt1, gd, _, hb => by cases k <;> simp [argOwn] at hb
  | k :: ks, a :: avs, rt, rt1, gd, hn, hb => by
    simp only [List.all_cons, Bool.and_eq_true] at hn
    cases k with
    | own t m => simp [PK.gives] at hn
    | val t => exact argOwn_none ks avs rt rt1 gd hn.2 (by simpa only [argOwn] using hb)
    | mutp t m m' => exact argOwn_none ks avs rt rt1 gd hn.2 (by simpa only [argOwn] using hb)
    | mutv t m m' => exact argOwn_none ks avs rt rt1 gd hn.2 (by simpa only [argOwn] using hb)
    | rptr t => exact argOwn_none ks avs rt rt1 gd hn.2 (by simpa only [argOwn] using hb)
    | fn => exact argOwn_none ks avs rt rt1 gd hn.2 (by simpa only [argOwn] using hb)
theorem gs_none {h h2 : Array Obj} {Pr Pr2 : BS} {Fs Fs2 : Nat → BS} : ∀ (ks : List PK) (i : Nat) {gd : GDen ks} {vs : List Value}, ks.all (fun k => !k.gives) = true → GsRel h Pr Fs i ks gd vs → GsRel h2 Pr2 Fs2 i ks gd vs
  | [], _, _, _, _, k => k
  | q :: ks, i, gd, vs, hn, k => by
    simp only [List.all_cons, Bool.and_eq_true] at hn
    cases q with
    | own t m => simp [PK.gives] at hn
    | val t => obtain ⟨v, vs', e, k⟩ := k; exact ⟨v, vs', e, gs_none ks (i + 1) hn.2 k⟩
    | mutp t m m' => obtain ⟨v, vs', e, k⟩ := k; exact ⟨v, vs', e, gs_none ks (i + 1) hn.2 k⟩
    | mutv t m m' => obtain ⟨v, vs', e, k⟩ := k; exact ⟨v, vs', e, gs_none ks (i + 1) hn.2 k⟩
    | rptr t => obtain ⟨v, vs', e, k⟩ := k; exact ⟨v, vs', e, gs_none ks (i + 1) hn.2 k⟩
    | fn => obtain ⟨v, vs', e, k⟩ := k; exact ⟨v, vs', e, gs_none ks (i + 1) hn.2 k⟩
structure LentP (h : Array Obj) (ks : List PK) (avs : List AV) (vs : List Value) (rt rt2 : Rts) (od : ODen ks) (n : Nat) (v : Value) (q : Nat) (t : Ty) (m m' : Mk) (R : Root) (x : t.den) : Prop where
  root : rt.root q = some R
  srv : m.serves R.ms = true
  mem : R.mem = true
  cast : castTo R.ty t R.x = some x
  rt2 : rt2 = rt.setRoot q none
  ls : ∀ Pr Fs i, PtrRel h Pr t m x v (Fs (i + n)) → LsRel h Pr Fs i ks od vs
  out : ∀ o : ODen ks, ∃ y : t.den, (∀ rtX site rt4, outDen rtX site ks avs o = some rt4 → m'.tagFree = true ∧ rt4 = rtX.setRoot q (some ⟨t, m'.stamp site, y, true⟩)) ∧
    ∀ h' Pr' Os i, OsRel h' Pr' Os i ks o vs → PtrRel h' Pr' t m' y v (Os (i + n))
  full : ks.all PK.full = true → m'.full t = true
structure LentV (h : Array Obj) (ks : List PK) (avs : List AV) (vs : List Value) (rt rt2 : Rts) (od : ODen ks) (n : Nat) (a : AV) (v : Value) (q : Nat) (p : Path) (R : Root) (md : Mk) (t : Ty) (xd : t.den) (m m' mx : Mk) (x : t.den) : Prop where
  place : placeOf a = some (q, p)
  root : rt.root q = some R
  foc : focus R.ty R.ms R.x p = some ⟨t, md, xd⟩
  lend : lendV q t a p md xd = some (mx, x)
  paths : pathsOk a p = true
  srv : m.serves mx = true
  rt2 : rt2 = rt.setRoot q none
  ls : ∀ Pr Fs i, ValRel h Pr t m x v (Fs (i + n)) → LsRel h Pr Fs i ks od vs
  out : ∀ o : ODen ks, ∃ y : t.den, (∀ rtX site rt4, outDen rtX site ks avs o = some rt4 → backAV rtX site t a m' y = some rt4) ∧
    ∀ h' Pr' Os i, OsRel h' Pr' Os i ks o vs → ValRel h' Pr' t m' y v (Os (i + n))
  full : ks.all PK.full = true → m'.full t = true
theorem lend_none_ls {h : Array Obj} {Pr : BS} {Fs : Nat → BS} {S : St} {g : Ghost} {ks : List PK} {avs : List AV} {vs : List Value} {i : Nat} {rt rt2 : Rts} {od : ODen ks} (hn : (ks.filter PK.lends).length = 0)
    (ha : AsRel h S g avs vs) (hb : argLend rt ks avs = some (od, rt2)) : rt2 = rt ∧ LsRel h Pr Fs i ks od vs := by
  refine argLend_none ks avs vs i rt rt2 od ?_ ha hb
  rw [List.length_eq_zero_iff, List.filter_eq_nil_iff] at hn
  simpa using hn
theorem out_none {site : Nat} : ∀ (ks : List PK) (avs : List AV) (o : ODen ks) (rt rt4 : Rts), (ks.filter PK.lends).length = 0 → outDen rt site ks avs o = some rt4 → rt4 = rt
  | [], avs, o, rt, rt4, _, hb => by
    cases avs with
    | nil => simp only [outDen, Option.some.injEq] at hb; exact hb.symm
    | cons a avs => simp [outDen] at hb
  | k :: ks, [], o, rt, rt4, _, hb => by cases k <;> simp [outDen] at hb
  | k :: ks, a :: avs, o, rt, rt4, hn, hb => by
    cases k with
    | mutp t m m' => simp [PK.lends] at hn
    | mutv t m m' => simp [PK.lends] at hn
    | val t => exact out_none ks avs o rt rt4 (by simpa [PK.lends] using hn) (by simpa only [outDen] using hb)
    | own t m => exact out_none ks avs o rt rt4 (by simpa [PK.lends] using hn) (by simpa only [outDen] using hb)
    | rptr t => exact out_none ks avs o rt rt4 (by simpa [PK.lends] using hn) (by simpa only [outDen] using hb)
    | fn => exact out_none ks avs o rt rt4 (by simpa [PK.lends] using hn) (by simpa only [outDen] using hb)
theorem lend_one {h : Array Obj} {S : St} {g : Ghost} : ∀ (ks : List PK) (avs : List AV) (vs : List Value) (rt rt2 : Rts) (od : ODen ks), (ks.filter PK.lends).length = 1 → AsRel h S g avs vs → argLend rt ks avs = some (od, rt2) → lendsOk ks avs = true →
    ∃ n a v, AVRel h S g a v ∧ ((∃ q t m m' R x, a = .addr q [] ∧ LentP h ks avs vs rt rt2 od n v q t m m' R x) ∨ (∃ q p R md t xd m m' mx x, LentV h ks avs vs rt rt2 od n a v q p R md t xd m m' mx x))
  | [], avs, vs, rt, rt2, od, hn, ha, hb, hlo => by simp at hn
  | k :: ks, [], vs, rt, rt2, od, hn, ha, hb, hlo => by cases k <;> simp [argLend] at hb
  | k :: ks, a :: avs, vs, rt, rt2, od, hn, ha, hb, hlo => by
    obtain ⟨v, vs', rfl, r1, r2⟩ := ha
    have step : ∀ (hk : k.lends = false) (hlo' : lendsOk ks avs = true) (od' : ODen ks), argLend rt ks avs = some (od', rt2) →
        (∀ h Pr Fs i, LsRel h Pr Fs (i + 1) ks od' vs' → LsRel h Pr Fs i (k :: ks) od (v :: vs')) →
        (∀ o : ODen (k :: ks), ∃ o' : ODen ks, (∀ rtX site, outDen rtX site (k :: ks) (a :: avs) o = outDen rtX site ks avs o') ∧ ∀ h' Pr' Os i, OsRel h' Pr' Os i (k :: ks) o (v :: vs') → OsRel h' Pr' Os (i + 1) ks o' vs') →
        ∃ n a' v', AVRel h S g a' v' ∧ ((∃ q t m m' R x, a' = .addr q [] ∧ LentP h (k :: ks) (a :: avs) (v :: vs') rt rt2 od n v' q t m m' R x) ∨ (∃ q p R md t xd m m' mx x, LentV h (k :: ks) (a :: avs) (v :: vs') rt rt2 od n a' v' q p R md t xd m m' mx x)) := by
      intro hk hlo' od' hb' hls hout
      have hn' : (ks.filter PK.lends).length = 1 := by rw [List.filter_cons_of_neg (by simp [hk])] at hn; exact hn
      obtain ⟨n, a', v', ra, hcase⟩ := lend_one ks avs vs' rt rt2 od' hn' r2 hb' hlo'
      refine ⟨n + 1, a', v', ra, ?_⟩
      rcases hcase with ⟨q, t, m, m', R, x, e, L⟩ | ⟨q, p, R, md, t, xd, m, m', mx, x, L⟩
      · refine .inl ⟨q, t, m, m', R, x, e, L.root, L.srv, L.mem, L.cast, L.rt2, ?_, ?_, ?_⟩
        · intro Pr Fs i hp
          exact hls _ _ _ _ (L.ls Pr Fs (i + 1) (by rw [show i + 1 + n = i + (n + 1) by omega]; exact hp))
        · intro o
          obtain ⟨o', ho1, ho2⟩ := hout o
          obtain ⟨y, hy1, hy2⟩ := L.out o'
          refine ⟨y, fun rtX site rt4 hh => hy1 rtX site rt4 (by rw [← ho1]; exact hh), fun h' Pr' Os i hh => ?_⟩
          have := hy2 h' Pr' Os (i + 1) (ho2 h' Pr' Os i hh)
          rwa [show i + 1 + n = i + (n + 1) by omega] at this
        · intro hf; simp only [List.all_cons, Bool.and_eq_true] at hf; exact L.full hf.2
      · refine .inr ⟨q, p, R, md, t, xd, m, m', mx, x, L.place, L.root, L.foc, L.lend, L.paths, L.srv, L.rt2, ?_, ?_, ?_⟩
        · intro Pr Fs i hp
          exact hls _ _ _ _ (L.ls Pr Fs (i + 1) (by rw [show i + 1 + n = i + (n + 1) by omega]; exact hp))
        · intro o
          obtain ⟨o', ho1, ho2⟩ := hout o
          obtain ⟨y, hy1, hy2⟩ := L.out o'
          refine ⟨y, fun rtX site rt4 hh => hy1 rtX site rt4 (by rw [← ho1]; exact hh), fun h' Pr' Os i hh => ?_⟩
          have := hy2 h' Pr' Os (i + 1) (ho2 h' Pr' Os i hh)
          rwa [show i + 1 + n = i + (n + 1) by omega] at this
        · intro hf; simp only [List.all_cons, Bool.and_eq_true] at hf; exact L.full hf.2
    cases k with
    | val t => exact step rfl (by simpa only [lendsOk] using hlo) od (by simpa only [argLend] using hb) (fun h Pr Fs i k => ⟨v, vs', rfl, k⟩) (fun o => ⟨o, fun _ _ => by simp only [outDen], fun h' Pr' Os i k => by obtain ⟨_, _, e, k⟩ := k; simp only [List.cons.injEq] at e; obtain ⟨-, rfl⟩ := e; exact k⟩)
    | own t m => exact step rfl (by simpa only [lendsOk] using hlo) od (by simpa only [argLend] using hb) (fun h Pr Fs i k => ⟨v, vs', rfl, k⟩) (fun o => ⟨o, fun _ _ => by simp only [outDen], fun h' Pr' Os i k => by obtain ⟨_, _, e, k⟩ := k; simp only [List.cons.injEq] at e; obtain ⟨-, rfl⟩ := e; exact k⟩)
    | rptr t => exact step rfl (by simpa only [lendsOk] using hlo) od (by simpa only [argLend] using hb) (fun h Pr Fs i k => ⟨v, vs', rfl, k⟩) (fun o => ⟨o, fun _ _ => by simp only [outDen], fun h' Pr' Os i k => by obtain ⟨_, _, e, k⟩ := k; simp only [List.cons.injEq] at e; obtain ⟨-, rfl⟩ := e; exact k⟩)
    | fn => exact step rfl (by simpa only [lendsOk] using hlo) od (by simpa only [argLend] using hb) (fun h Pr Fs i k => ⟨v, vs', rfl, k⟩) (fun o => ⟨o, fun _ _ => by simp only [outDen], fun h' Pr' Os i k => by obtain ⟨_, _, e, k⟩ := k; simp only [List.cons.injEq] at e; obtain ⟨-, rfl⟩ := e; exact k⟩)
    | mutp t m m' =>
      have hn' : (ks.filter PK.lends).length = 0 := by
        rw [List.filter_cons_of_pos (by rfl)] at hn; simpa using hn
      cases a with
      | addr q p =>
        cases p with
        | nil =>
          simp only [argLend] at hb
          split at hb
          · rename_i R hR
            split at hb
            · rename_i hc
              simp only [Option.bind_eq_some_iff, Option.some.injEq, Prod.mk.injEq] at hb
              obtain ⟨x, hx, ⟨od2, rt3⟩, hb, e1, e2⟩ := hb
              subst e2
              obtain ⟨e3, _⟩ := lend_none_ls (h := h) (Pr := Nil) (Fs := fun _ => Nil) (i := 0) hn' r2 hb
              refine ⟨0, .addr q [], v, r1, .inl ⟨q, t, m, m', R, x, rfl, hR, hc.1, hc.2, hx, e3, ?_, ?_, ?_⟩⟩
              · intro Pr Fs i hp
                subst e1
                exact ⟨v, vs', rfl, hp, (lend_none_ls hn' r2 hb).2⟩
              · intro o
                refine ⟨o.1, fun rtX site rt4 hh => ?_, fun h' Pr' Os i hh => ?_⟩
                · simp only [outDen] at hh
                  split at hh
                  · rename_i ht; exact ⟨ht, out_none ks avs o.2 _ _ hn' hh⟩
                  · simp at hh
                · obtain ⟨_, _, e, k, _⟩ := hh
                  simp only [List.cons.injEq] at e
                  obtain ⟨rfl, -⟩ := e
                  exact k
              · intro hf; simp only [List.all_cons, Bool.and_eq_true] at hf; exact hf.1
            · simp at hb
          · simp at hb
        | cons _ _ => simp [argLend] at hb
      | _ => simp [argLend] at hb
    | mutv t m m' =>
      have hn' : (ks.filter PK.lends).length = 0 := by
        rw [List.filter_cons_of_pos (by rfl)] at hn; simpa using hn
      simp only [argLend] at hb
      split at hb
      · rename_i q p hpl
        split at hb
        · rename_i R hR
          simp only [Option.bind_eq_some_iff] at hb
          obtain ⟨⟨td, md, xd⟩, hf, hb⟩ := hb
          split at hb
          · rename_i htd
            simp only at htd
            subst htd
            simp only [Option.bind_eq_some_iff] at hb
            obtain ⟨⟨mx, x⟩, htk, hb⟩ := hb
            split at hb
            · rename_i hs
              simp only [Option.bind_eq_some_iff, Option.some.injEq, Prod.mk.injEq] at hb
              obtain ⟨⟨od2, rt4⟩, hb, e1, e2⟩ := hb
              subst e2
              obtain ⟨e3, _⟩ := lend_none_ls (h := h) (Pr := Nil) (Fs := fun _ => Nil) (i := 0) hn' r2 hb
              refine ⟨0, a, v, r1, .inr ⟨q, p, R, md, _, xd, m, m', mx, x, hpl, hR, hf, htk, (by simp only [lendsOk, hpl, Bool.and_eq_true] at hlo; exact hlo.1), hs, e3, ?_, ?_, ?_⟩⟩
              · intro Pr Fs i hp
                subst e1
                exact ⟨v, vs', rfl, hp, (lend_none_ls hn' r2 hb).2⟩
              · intro o
                refine ⟨o.1, fun rtX site rt4 hh => ?_, fun h' Pr' Os i hh => ?_⟩
                · simp only [outDen, Option.bind_eq_some_iff] at hh
                  obtain ⟨rt5, h5, h6⟩ := hh
                  rw [out_none ks avs o.2 _ _ hn' h6]; exact h5
                · obtain ⟨_, _, e, k, _⟩ := hh
                  simp only [List.cons.injEq] at e
                  obtain ⟨rfl, -⟩ := e
                  exact k
              · intro hf; simp only [List.all_cons, Bool.and_eq_true] at hf; exact hf.1
            · simp at hb
          · simp at hb
        · simp at hb
      · simp at hb
end Go.V

namespace Go.V
open Go
theorem kp_drop {h : Array Obj} {S : St} {g : Ghost} {tmps : Array Value} {H : BS} (st : StRel h S g tmps H) (q : Nat) : Kp h S g (S.setRoot q none) g := by
  have hroot : ∀ r', (S.setRoot q none).root r' = S.root r' ∨ (S.setRoot q none).root r' = none := by
    intro r'; rw [St.root_setRoot]; by_cases e : r' = q ∧ q < S.rt.length <;> simp [e]
  intro u v y
  refine (AVRel.keep (Sub.refl _) (fun _ _ => rfl) u).1 v y (AV.keeps_all (fun r p => ?_) (fun r p s => ?_) u)
  · exact (keep_same st (hroot r) rfl rfl (fun _ _ _ => rfl)).1 p
  · exact (keep_same st (hroot r) rfl rfl (fun _ _ _ => rfl)).2 p s
theorem fresh_paths {h h2 : Array Obj} {t : Ty} {x y : t.den} {m2 : Mk} {c c2 : List Value} {base : Base} {site : Nat} (hf : m2.fresh site (site + 1)) :
    ∀ p' t1 n1, pathOk site (site + 1) p' = true → focusM t m2 p' = some (t1, n1) → inR t x p' → inR t y p' ∧ ∀ bp cp, atP h t c base p' = some (bp, cp) →
      ∃ cp', atP h2 t c2 base p' = some (bp, cp') ∧ (∀ s a, n1 = .own s a → ¬ (site ≤ s ∧ s < site + 1) → cp' = cp) := by
  intro p' t1 n1 hp hfm _
  obtain ⟨hi', hn1⟩ := focusM_fresh p' hf hp hfm
  refine ⟨inR_plain _ _ hi' hfm, fun bp cp ha => ?_⟩
  obtain ⟨cp', h3⟩ := atP_plain (h' := h2) p' _ c2 _ hi' ha
  exact ⟨cp', h3, fun s a' e hs => by subst e; exact absurd hn1 hs⟩
section
variable {P : Program} {C : Ctx} {D : Den C} {S : St} {g : Ghost} {w : World} {tmps : Array Value}
variable {A : Asks} {site : Nat} (dok : DOk P C D) (st : StRel w.heap S g tmps Nil)
include dok st
theorem callMutp_ok {f : FuncId} {avs : List AV} {vs : List Value} {d : Option Nat} (ok : AOk A S d site) (hfr : site < 1048576 ∧ ∀ u, (S.get u).stampsOk site (site + 1) = true)
    (ha : AsRel w.heap S g avs vs) (hng : (C.sig f).params.all (fun k => !k.gives) = true) {gd : GDen (C.sig f).params} (h1 : argOwn S.rt (C.sig f).params avs = some (gd, S.rt))
    {od : ODen (C.sig f).params} {rt2 : Rts} {n : Nat} {v0 : Value} {q : Nat} {t : Ty} {m m' : Mk} {R : Root} {x : t.den} (hav : AVRel w.heap S g (.addr q []) v0)
    (L : LentP w.heap (C.sig f).params avs vs S.rt rt2 od n v0 q t m m' R x) {a : PDen (C.sig f).params} (h3 : argDen rt2 (C.sig f).params avs gd od = some a)
    (hs : sharedArgs (C.sig f).params avs = true ∨ (C.sig f).full = true) {r : RDen (C.sig f).res × ODen (C.sig f).params} (hD : D f a = some r) {β : Bool} {v : AV} {rt3 rt' : Rts}
    (ho : outDen S.rt site (C.sig f).params avs r.2 = some rt3) (he : (layRes A rt3 d site (C.sig f).res r.1).dec β = some (v, rt')) :
    Calls P f vs.toArray w fun e w' => ∃ val, e = .returned val ∧ Post S g w tmps v rt' val w' := by
  have hR := L.root
  have hisr : (S.root q).isSome := by show (S.rt.root q).isSome = true; rw [hR]; rfl
  obtain ⟨e1, e2⟩ := castTo_some L.cast
  obtain ⟨Rt, Rm, Rx, Rmem⟩ := R
  simp only at e1 e2
  subst e1
  simp only at e2
  subst e2
  have hmem : Rmem = true := L.mem
  subst hmem
  obtain ⟨base, c, F, q1, q2, q3, q4, q5, q6⟩ := st.updateD hR (focus_nil Rt Rm Rx) (inR_nil _ _)
  simp only [AVRel] at hav
  obtain ⟨_, b, off, c', hat, ev0⟩ := hav _ hR _ (focus_nil _ _ _)
  rw [atP_nil] at hat q1
  simp only [Option.some.injEq, Prod.mk.injEq] at hat q1
  obtain ⟨hb1, hb2⟩ := q1
  obtain ⟨hb3, hb4⟩ := hat
  obtain ⟨F00, _, _, _, hmm, _⟩ := st.roots q _ hR
  obtain ⟨b0, hB, hGb, hob⟩ := hmm rfl
  have hbase : g.base q = some (b0, 0) := by simp [Ghost.base, hB]
  rw [hbase] at hb1 hb3
  simp only [Option.some.injEq, Prod.mk.injEq] at hb3
  obtain ⟨rfl, rfl⟩ := hb3
  subst hb1
  subst hb2
  obtain ⟨hbF, _⟩ := q4 b0 0 rfl
  obtain ⟨F1, F2, s1, s2, s3, s4⟩ := Rep.serves Rt L.srv q2
  have st2 := (st.dropRootH hisr).shareHand F2 (fun z hz => .inr (q3 z (s2 z hz)))
  let g2 : Ghost := { g with Pr := Un g.Pr F2 }
  have kp2 : Kp w.heap S g (S.setRoot q none) g2 := (kp_drop st q).trans (kp_share (st.dropRootH hisr) F2)
  let Fs : Nat → BS := fun j => if j = n then (fun z => z = b0 ∨ F1 z) else Nil
  have hFs : ∀ i, Sub (Fs i) (fun z => (Nil z ∨ g.G q z) ∧ ¬ F2 z) := by
    intro i z hz
    simp only [Fs] at hz
    split at hz
    · rcases hz with rfl | hz
      · exact ⟨.inr hGb, fun h => hbF (s2 _ h)⟩
      · exact ⟨.inr (q3 z (s1 z hz)), fun h => s3 z hz h⟩
    · exact hz.elim
  have e2 : rt2 = (S.setRoot q none).rt := L.rt2
  subst e2
  obtain ⟨gg1, HH1, FF, kk⟩ := argOwn_ok (sl := S.sl) (C.sig f).params avs vs S.rt g Nil 0 gd S.rt ha st h1
  have hG := gs_none (h2 := w.heap) (Pr2 := g2.Pr) (Fs2 := Fs) (C.sig f).params 0 hng kk.2.2.2.2.1
  have hL := L.ls g2.Pr Fs 0 (by
    simp only [Nat.zero_add, Fs, if_true]
    exact ⟨b0, g.C q, F1, ev0, s4, hob, .inl rfl, fun z hz => .inr hz, fun h => hbF (s1 _ h)⟩)
  have hps := argDen_ok st2 (sh := sharedArgs (C.sig f).params avs) (Fs := Fs) (C.sig f).params avs vs 0 gd od a (fun h => h) (ha.kp kp2) hG hL h3
  have hFsd : ∀ i j, i ≠ j → Dis (Fs i) (Fs j) := by
    intro i j hij z h1 h2
    simp only [Fs] at h1 h2
    split at h1
    · split at h2
      · omega
      · exact h2
    · exact h1
  have pre : Pre w.heap (Seen (sharedArgs (C.sig f).params avs) (S.setRoot q none) g2) Fs (C.sig f).params a vs :=
    ⟨hps, hFsd, fun i z hz => vis_dis st2 _ z (hFs i z hz), fun i z hz => st2.limH z (hFs i z hz), vis_lim st2 _⟩
  refine (dok.ok f a r hD w _ Fs vs pre).mono ?_
  rintro e w' ⟨val, Pr', Gs, Os, us, rfl, p⟩
  obtain ⟨y, hy1, hy2⟩ := L.out r.2
  obtain ⟨hmt, rfl⟩ := hy1 S.rt site rt3 ho
  obtain ⟨b2, c2, F0', ev2, rep2, hob2, hOb, hF0', hnb⟩ := hy2 _ _ _ _ p.out
  rw [Nat.zero_add] at hOb hF0'
  rw [ev0] at ev2
  simp only [Value.pointer.injEq, Option.some.injEq, Addr.mk.injEq, and_true] at ev2
  subst ev2
  have hMay : ∀ z, May w.heap.size Fs z → w.heap.size ≤ z ∨ z = b0 ∨ F1 z := by
    rintro z (h | ⟨i, h⟩)
    · exact .inl h
    · simp only [Fs] at h
      split at h
      · exact .inr h
      · exact h.elim
  let Dd : BS := fun z => sharedArgs (C.sig f).params avs = true ∧ Pr' z ∧ ¬ g.Pr z
  have hDd : ∀ z, Dd z → F z ∨ Nil z ∨ w.heap.size ≤ z := by
    rintro z ⟨hsh, h1, h2⟩
    rcases p.prL z h1 with h3 | h3
    · rw [hsh] at h3
      simp only [Seen, if_true] at h3
      rcases h3 with h3 | h3
      · exact absurd h3 h2
      · exact .inl (s2 z h3)
    · rcases hMay z h3 with h4 | rfl | h4
      · exact .inr (.inr h4)
      · exact (p.op n z hOb h1).elim
      · exact .inl (s1 z h4)
  have hF0m : ∀ z, F0' z → F z ∨ Nil z ∨ w.heap.size ≤ z := by
    intro z hz
    rcases hMay z (p.oL n z (hF0' z hz)) with h4 | rfl | h4
    · exact .inr (.inr h4)
    · exact (hnb hz).elim
    · exact .inl (s1 z h4)
  have hfull : sharedArgs (C.sig f).params avs = false → (C.sig f).full = true := fun h => hs.resolve_left (by rw [h]; simp)
  have rep3 : Rep w'.heap (Un g.Pr Dd) Rt (m'.stamp site) y c2 F0' := by
    refine (Rep.stamp site _).1 ?_
    cases hsh : sharedArgs (C.sig f).params avs with
    | true =>
      refine Rep.mono (fun z hz => ?_) (fun _ _ => rfl) _ rep2 (Sub.refl _) (fun _ _ => rfl)
      by_cases h1 : g.Pr z
      · exact .inl h1
      · exact .inr ⟨hsh, hz, h1⟩
    | false =>
      have h5 := hfull hsh
      simp only [Sig.full, Bool.and_eq_true] at h5
      exact Rep.fullMk _ (L.full h5.1) rep2
  have hl1 : (g.C q).length = Rt.width := Rep.width _ q2
  have hl2 := Rep.width _ rep2
  have hfresh2 : (m'.stamp site).fresh site (site + 1) := Mk.fresh_stamp site hmt
  obtain ⟨g', k1, k2, k3, k4, k5, k6, k7⟩ := q6 site (site + 1) w'.heap (m'.stamp site) y c2 F0' Dd (m'.stamp site) y hfr.2
    (fun z hz hnF hbz => p.fr.block z hz (fun h => by
      rcases hMay z h with h4 | rfl | h4
      · omega
      · exact hbz 0 rfl
      · exact hnF (s1 z h4)))
    p.fr.size
    (by
      intro b o e cs hcs
      simp only [Option.some.injEq, Prod.mk.injEq] at e
      obtain ⟨rfl, rfl⟩ := e
      obtain rfl := OwnBlk.uniq hob hcs
      exact ⟨c2.toArray, hob2, by rw [List.toList_toArray, List.toList_toArray]; exact (repl_all (by omega)).symm⟩)
    rep3 (fun z h1 h2 => p.op n z (hF0' z h2) h1.2.1) (fun z hz => hz.elim (hF0m z) (hDd z))
    (fun z hz => hz.elim (fun h => p.olim n z (hF0' z h)) (fun h => p.plim z h.2.1))
    (by simp [put, castTo]) (Mk.upd_of_fresh _ hfresh2) (TagC.tagFree _ (Mk.tagFree_stamp hfr.1 hmt)) (fun h => by simp [hasIdx] at h) (fresh_paths hfresh2)
  have hres : RsRel w'.heap g'.Pr Gs 0 (C.sig f).res r.1 us := by
    refine RsRel.conv _ 0 ?_ p.res
    cases hsh : sharedArgs (C.sig f).params avs with
    | true =>
      refine .inl (fun z hz => ?_)
      by_cases h1 : g.Pr z
      · exact k2 z h1
      · exact k3 z ⟨hsh, hz, h1⟩
    | false =>
      have h5 := hfull hsh
      simp only [Sig.full, Bool.and_eq_true] at h5
      exact .inr h5.2
  have hGH : ∀ i, Sub (Gs i) (fun z => (Nil z ∨ F z ∨ (w.heap.size ≤ z ∧ z < w'.heap.size)) ∧ ¬ (F0' z ∨ Dd z)) := by
    intro i z hz
    refine ⟨?_, ?_⟩
    · rcases hMay z (p.gL i z hz) with h4 | rfl | h4
      · exact .inr (.inr ⟨h4, p.glim i z hz⟩)
      · exact (p.go i n z hz hOb).elim
      · exact .inr (.inl (s1 z h4))
    · rintro (h | h)
      · exact p.go i n z hz (hF0' z h)
      · exact p.gp i z hz h.2.1
  obtain ⟨g4, t1, t2, t3⟩ := layRes_ok (S := S) k1 hGH p.gdis ok (C.sig f).res hres he
  refine ⟨val, rfl, g4, t1, by rw [p.val]; exact t2, k4.trans t3, p.fr.mono ?_⟩
  intro z hz h
  rcases hMay z h with h4 | rfl | h4
  · omega
  · exact st.own q _ hisr hGb
  · exact st.own q _ hisr (q3 z (s1 z h4))
end
end Go.V

namespace Go.V
open Go
theorem lend_inR {h : Array Obj} {S : St} {g : Ghost} {q : Nat} {R : Root} (hR : S.root q = some R) : ∀ (t : Ty) {a : AV} {p : Path} {md : Mk} {xd : t.den} {z : Mk × t.den} {cu : List Value} {rp : Nat × Path},
    focus R.ty R.ms R.x p = some ⟨t, md, xd⟩ → AVC h S g a cu → lendV q t a p md xd = some z → pathsOk a p = true → placeOf a = some rp → inR R.ty R.x p := by
  intro t
  induction t with
  | pair ta tb iha ihb =>
    intro a p md xd z cu rp hf hc hl hpo hp
    cases a with
    | pair u v =>
      simp only [lendV, Option.bind_eq_some_iff] at hl
      obtain ⟨y, hy, z', hz, -⟩ := hl
      simp only [AVC] at hc
      obtain ⟨ca, cb, -, h1, h2⟩ := hc
      simp only [pathsOk, Bool.and_eq_true] at hpo
      cases hu : placeOf u with
      | some rp' =>
        have := iha (by rw [focus_app p _ hf]; simp [focus]) h1 hy hpo.1 hu
        exact ((inR_app p _ hf).1 this).1
      | none =>
        cases hv : placeOf v with
        | some rp' =>
          have := ihb (by rw [focus_app p _ hf]; simp [focus]) h2 hz hpo.2 hv
          exact ((inR_app p _ hf).1 this).1
        | none => simp [placeOf, hu, hv] at hp
    | brw r' p' s => simp [lendV] at hl
    | _ => simp [placeOf] at hp
  | sl e ih =>
    intro a p md xd z cu rp hf hc hl hpo hp
    cases a with
    | pair u v => simp [lendV] at hl
    | brw r' p' s =>
      simp only [lendV] at hl
      cases md with
      | own s' m0 =>
        simp only at hl
        split at hl
        · rename_i hcnd
          obtain ⟨rfl, rfl⟩ := hcnd
          simp only [pathsOk, decide_eq_true_eq] at hpo
          subst hpo
          simp only [AVC] at hc
          obtain ⟨v, rfl, hb⟩ := hc
          exact (hb R hR _ _ _ hf).1
        · simp at hl
      | _ => simp at hl
    | _ => simp [placeOf] at hp
  | _ =>
    intro a p md xd z cu rp hf hc hl hpo hp
    cases a with
    | pair u v => simp [lendV] at hl
    | brw r' p' s => simp [lendV] at hl
    | _ => simp [placeOf] at hp
theorem lend_rep {h : Array Obj} {S : St} {g : Ghost} {q : Nat} {R : Root} (hR : S.root q = some R) : ∀ (t : Ty) {a : AV} {p : Path} {md : Mk} {xd : t.den} {mx : Mk} {x : t.den} {c cu : List Value} {base : Base} {F : BS},
    focus R.ty R.ms R.x p = some ⟨t, md, xd⟩ → atP h R.ty (g.C q) (g.base q) p = some (base, c) → Rep h g.Pr t md xd c F → AVC h S g a cu →
    lendV q t a p md xd = some (mx, x) → pathsOk a p = true → Rep h g.Pr t mx x cu F := by
  intro t
  have hval : ∀ (t : Ty) (t' : Ty) (x' : t'.den) (md : Mk) (mx : Mk) (x : t.den) (cu : List Value) (F : BS),
      (if md.still = true then (castTo t' t x').bind fun y => some (Mk.no, y) else none) = some (mx, x) → Rep h g.Pr t' .no x' cu Nil → Rep h g.Pr t mx x cu F := by
    intro t t' x' md mx x cu F hl hr
    split at hl
    · simp only [Option.bind_eq_some_iff, Option.some.injEq, Prod.mk.injEq] at hl
      obtain ⟨y, hy, rfl, rfl⟩ := hl
      exact (Rep.cast hy hr).2.room _ (Sub.nil _)
    · simp at hl
  induction t with
  | pair ta tb iha ihb =>
    intro a p md xd mx x c cu base F hf ha r hc hl hpo
    cases a with
    | pair u v =>
      simp only [lendV, Option.bind_eq_some_iff, Option.some.injEq, Prod.mk.injEq] at hl
      obtain ⟨y, hy, z', hz, rfl, rfl⟩ := hl
      simp only [AVC] at hc
      obtain ⟨ca, cb, rfl, h1, h2⟩ := hc
      simp only [pathsOk, Bool.and_eq_true] at hpo
      simp only [Rep] at r
      obtain ⟨da, db, Fa, Fb, rfl, ra, rb, sa, sb, dd⟩ := r
      have hw := Rep.width _ ra
      have e1 := iha (base := base) (F := Fa) (c := da) (by rw [focus_app p _ hf]; simp [focus]) (by rw [atP_app p _ hf ha]; simp only [atP]; rw [← hw, List.take_left' rfl]) ra h1 hy hpo.1
      have e2 := ihb (base := base.map fun x => (x.1, x.2 + ta.width)) (F := Fb) (c := db) (by rw [focus_app p _ hf]; simp [focus]) (by rw [atP_app p _ hf ha]; simp only [atP]; rw [← hw, List.drop_left' rfl]) rb h2 hz hpo.2
      simp only [Rep]
      exact ⟨ca, cb, Fa, Fb, rfl, e1, e2, sa, sb, dd⟩
    | val t' x' => simp only [lendV] at hl; simp only [AVC] at hc; exact hval _ _ _ _ _ _ _ _ hl hc
    | _ => simp [lendV] at hl
  | sl e ih =>
    intro a p md xd mx x c cu base F hf ha r hc hl hpo
    cases a with
    | brw r' p' s =>
      simp only [lendV] at hl
      cases md with
      | own s' m0 =>
        simp only at hl
        split at hl
        · rename_i hcnd
          obtain ⟨rfl, rfl⟩ := hcnd
          simp only [pathsOk, decide_eq_true_eq] at hpo
          subst hpo
          simp only [AVC] at hc
          obtain ⟨v, rfl, hb⟩ := hc
          obtain ⟨_, b', hat⟩ := hb R hR _ _ _ hf
          rw [hat] at ha
          simp only [Option.some.injEq, Prod.mk.injEq] at ha hl
          obtain ⟨_, rfl⟩ := ha
          obtain ⟨rfl, rfl⟩ := hl
          exact r
        · simp at hl
      | _ => simp at hl
    | val t' x' => simp only [lendV] at hl; simp only [AVC] at hc; exact hval _ _ _ _ _ _ _ _ hl hc
    | _ => simp [lendV] at hl
  | unit =>
    intro a p md xd mx x c cu base F hf ha r hc hl hpo
    cases a with
    | val t' x' => simp only [lendV] at hl; simp only [AVC] at hc; exact hval _ _ _ _ _ _ _ _ hl hc
    | unit => simp only [AVC] at hc; subst hc; simp only [Rep]
    | _ => simp [lendV] at hl
  | int k =>
    intro a p md xd mx x c cu base F hf ha r hc hl hpo
    cases a with
    | val t' x' => simp only [lendV] at hl; simp only [AVC] at hc; exact hval _ _ _ _ _ _ _ _ hl hc
    | _ => simp [lendV] at hl
  | bool =>
    intro a p md xd mx x c cu base F hf ha r hc hl hpo
    cases a with
    | val t' x' => simp only [lendV] at hl; simp only [AVC] at hc; exact hval _ _ _ _ _ _ _ _ hl hc
    | _ => simp [lendV] at hl
  | str =>
    intro a p md xd mx x c cu base F hf ha r hc hl hpo
    cases a with
    | val t' x' => simp only [lendV] at hl; simp only [AVC] at hc; exact hval _ _ _ _ _ _ _ _ hl hc
    | _ => simp [lendV] at hl
theorem merge_rep {h h2 : Array Obj} {S : St} {g : Ghost} {Pr2 : BS} {site q : Nat} {R : Root} (hR : S.root q = some R) (hp : Sub g.Pr Pr2) (hk : ∀ b, g.Pr b → h2[b]? = h[b]?) :
    ∀ (t : Ty) {a : AV} {p : Path} {md : Mk} {xd : t.den} {m mm : Mk} {o yy : t.den} {c cu : List Value} {base : Base} {F Os : BS},
    focus R.ty R.ms R.x p = some ⟨t, md, xd⟩ → atP h R.ty (g.C q) (g.base q) p = some (base, c) → Rep h g.Pr t md xd c F → AVC h S g a cu →
    Rep h2 Pr2 t m o cu Os → (∃ z, lendV q t a p md xd = some z) → pathsOk a p = true → mergeV site q t a p md xd m o = some (mm, yy) →
    ∃ F1 F2, Sub F1 Os ∧ Sub F2 Os ∧ Dis F1 F2 ∧ Rep h2 (fun b => Pr2 b ∨ F2 b) t mm yy c F1 := by
  intro t
  have hval : ∀ (t : Ty) (md : Mk) (xd : t.den) (mm : Mk) (yy : t.den) (c : List Value) (F Os : BS),
      (if md.still = true then some (Mk.no, xd) else none) = some (mm, yy) → Rep h g.Pr t md xd c F → ∃ F1 F2, Sub F1 Os ∧ Sub F2 Os ∧ Dis F1 F2 ∧ Rep h2 (fun b => Pr2 b ∨ F2 b) t mm yy c F1 := by
    intro t md xd mm yy c F Os hl hr
    split at hl
    · rename_i hs
      simp only [Option.some.injEq, Prod.mk.injEq] at hl
      obtain ⟨rfl, rfl⟩ := hl
      exact ⟨Nil, Nil, Sub.nil _, Sub.nil _, Dis.nil _, Rep.mono (fun b hb => .inl (hp b hb)) hk t (Rep.no_room (F' := Nil) t hs hr) (Sub.refl _) (fun _ h => h.elim)⟩
    · simp at hl
  induction t with
  | pair ta tb iha ihb =>
    intro a p md xd m mm o yy c cu base F Os hf ha r hc ro hle hpo hl
    cases a with
    | pair u v =>
      simp only [mergeV, Option.bind_eq_some_iff, Option.some.injEq, Prod.mk.injEq] at hl
      obtain ⟨y, hy, z', hz, rfl, rfl⟩ := hl
      simp only [AVC] at hc
      obtain ⟨ca, cb, rfl, h1, h2'⟩ := hc
      simp only [pathsOk, Bool.and_eq_true] at hpo
      simp only [Rep] at r
      obtain ⟨da, db, Fa, Fb, rfl, ra, rb, sa, sb, dd⟩ := r
      have hw := Rep.width _ ra
      simp only [Rep] at ro
      obtain ⟨ea, eb, Oa, Ob, eo, roa, rob, soa, sob, doo⟩ := ro
      have f1 : focus R.ty R.ms R.x (p ++ [.fst]) = some ⟨ta, md.fst, xd.1⟩ := by rw [focus_app p _ hf]; simp [focus]
      have f2 : focus R.ty R.ms R.x (p ++ [.snd]) = some ⟨tb, md.snd, xd.2⟩ := by rw [focus_app p _ hf]; simp [focus]
      have a1 : atP h R.ty (g.C q) (g.base q) (p ++ [.fst]) = some (base, da) := by rw [atP_app p _ hf ha]; simp only [atP]; rw [← hw, List.take_left' rfl]
      have a2 : atP h R.ty (g.C q) (g.base q) (p ++ [.snd]) = some (base.map fun x => (x.1, x.2 + ta.width), db) := by rw [atP_app p _ hf ha]; simp only [atP]; rw [← hw, List.drop_left' rfl]
      obtain ⟨zz, hle⟩ := hle
      simp only [lendV, Option.bind_eq_some_iff] at hle
      obtain ⟨zy, hzy, zz, hzz, -⟩ := hle
      have hcl : ca = ea ∧ cb = eb := by
        have w1 := Rep.width _ roa
        have w2 := Rep.width _ rob
        have : ca.length = ea.length := by
          rw [w1]
          exact Rep.width _ (lend_rep hR ta f1 a1 ra h1 (mx := zy.1) (x := zy.2) hzy hpo.1)
        exact List.append_inj eo this
      obtain ⟨rfl, rfl⟩ := hcl
      obtain ⟨A1, A2, s1, s2, d1, r1⟩ := iha f1 a1 ra h1 roa ⟨_, hzy⟩ hpo.1 hy
      obtain ⟨B1, B2, s3, s4, d2, r2⟩ := ihb f2 a2 rb h2' rob ⟨_, hzz⟩ hpo.2 hz
      refine ⟨fun b => A1 b ∨ B1 b, fun b => A2 b ∨ B2 b, ?_, ?_, ?_, ?_⟩
      · rintro z (hz | hz)
        · exact soa z (s1 z hz)
        · exact sob z (s3 z hz)
      · rintro z (hz | hz)
        · exact soa z (s2 z hz)
        · exact sob z (s4 z hz)
      · rintro z (hz | hz) (hy | hy)
        · exact d1 z hz hy
        · exact doo z (s1 z hz) (s4 z hy)
        · exact doo z (s2 z hy) (s3 z hz)
        · exact d2 z hz hy
      · simp only [Rep]
        exact ⟨da, db, A1, B1, rfl, Rep.mono (fun z hz => hz.imp id .inl) (fun _ _ => rfl) _ r1 (Sub.refl _) (fun _ _ => rfl),
          Rep.mono (fun z hz => hz.imp id .inr) (fun _ _ => rfl) _ r2 (Sub.refl _) (fun _ _ => rfl), fun z hz => .inl hz, fun z hz => .inr hz, doo.mono s1 s3⟩
    | val t' x' => simp only [mergeV] at hl; exact hval _ _ _ _ _ _ _ _ hl r
    | unit => simp only [mergeV] at hl; exact hval _ _ _ _ _ _ _ _ hl r
    | _ => simp [mergeV] at hl
  | sl e ih =>
    intro a p md xd m mm o yy c cu base F Os hf ha r hc ro hle hpo hl
    cases a with
    | brw r' p' s =>
      simp only [mergeV] at hl
      cases md with
      | own s' m0 =>
        simp only at hl
        split at hl
        · rename_i hcnd
          obtain ⟨rfl, rfl, htf, hsv⟩ := hcnd
          simp only [pathsOk, decide_eq_true_eq] at hpo
          subst hpo
          simp only [AVC] at hc
          obtain ⟨v, rfl, hb⟩ := hc
          obtain ⟨_, b', hat⟩ := hb R hR _ _ _ hf
          rw [hat] at ha
          simp only [Option.some.injEq, Prod.mk.injEq] at ha hl
          obtain ⟨_, rfl⟩ := ha
          obtain ⟨rfl, rfl⟩ := hl
          obtain ⟨F1, F2, s1, s2, d, rr⟩ := Rep.serves _ hsv ro
          refine ⟨F1, F2, s1, s2, d, ?_⟩
          have := (Rep.stamp site _).1 rr
          simp only [Mk.stamp, Rep] at this ⊢
          exact this
        · simp at hl
      | _ => simp at hl
    | val t' x' => simp only [mergeV] at hl; exact hval _ _ _ _ _ _ _ _ hl r
    | unit => simp only [mergeV] at hl; exact hval _ _ _ _ _ _ _ _ hl r
    | _ => simp [mergeV] at hl
  | unit =>
    intro a p md xd m mm o yy c cu base F Os hf ha r hc ro hle hpo hl
    cases a with
    | val t' x' => simp only [mergeV] at hl; exact hval _ _ _ _ _ _ _ _ hl r
    | unit => simp only [mergeV] at hl; exact hval _ _ _ _ _ _ _ _ hl r
    | _ => simp [mergeV] at hl
  | int k =>
    intro a p md xd m mm o yy c cu base F Os hf ha r hc ro hle hpo hl
    cases a with
    | val t' x' => simp only [mergeV] at hl; exact hval _ _ _ _ _ _ _ _ hl r
    | unit => simp only [mergeV] at hl; exact hval _ _ _ _ _ _ _ _ hl r
    | _ => simp [mergeV] at hl
  | bool =>
    intro a p md xd m mm o yy c cu base F Os hf ha r hc ro hle hpo hl
    cases a with
    | val t' x' => simp only [mergeV] at hl; exact hval _ _ _ _ _ _ _ _ hl r
    | unit => simp only [mergeV] at hl; exact hval _ _ _ _ _ _ _ _ hl r
    | _ => simp [mergeV] at hl
  | str =>
    intro a p md xd m mm o yy c cu base F Os hf ha r hc ro hle hpo hl
    cases a with
    | val t' x' => simp only [mergeV] at hl; exact hval _ _ _ _ _ _ _ _ hl r
    | unit => simp only [mergeV] at hl; exact hval _ _ _ _ _ _ _ _ hl r
    | _ => simp [mergeV] at hl
theorem still_no {t : Ty} {md mm : Mk} {xd yy : t.den} (hl : (if md.still = true then some (Mk.no, xd) else none) = some (mm, yy)) : md.still = true ∧ mm = .no ∧ yy = xd := by
  split at hl
  · rename_i hs
    simp only [Option.some.injEq, Prod.mk.injEq] at hl
    exact ⟨hs, hl.1.symm, hl.2.symm⟩
  · simp at hl
theorem merge_tag {hd : Nat → Value} {site q : Nat} (hs : site < 1048576) : ∀ (t : Ty) {a : AV} {p : Path} {md : Mk} {xd : t.den} {m mm : Mk} {o yy : t.den} {c : List Value},
    mergeV site q t a p md xd m o = some (mm, yy) → TagC hd t md c → TagC hd t mm c ∧ md.upd site (site + 1) mm := by
  intro t
  induction t with
  | pair ta tb iha ihb =>
    intro a p md xd m mm o yy c hl htg
    cases a with
    | pair u v =>
      simp only [mergeV, Option.bind_eq_some_iff, Option.some.injEq, Prod.mk.injEq] at hl
      obtain ⟨y, hy, z', hz, rfl, rfl⟩ := hl
      simp only [TagC] at htg ⊢
      have h1 := iha hy htg.1
      have h2 := ihb hz htg.2
      exact ⟨⟨h1.1, h2.1⟩, h1.2, h2.2⟩
    | val t' x' => simp only [mergeV] at hl; obtain ⟨_, rfl, rfl⟩ := still_no hl; exact ⟨TagC.no _ _, trivial⟩
    | unit => simp only [mergeV] at hl; obtain ⟨_, rfl, rfl⟩ := still_no hl; exact ⟨TagC.no _ _, trivial⟩
    | _ => simp [mergeV] at hl
  | sl e ih =>
    intro a p md xd m mm o yy c hl htg
    cases a with
    | brw r' p' s =>
      simp only [mergeV] at hl
      cases md with
      | own s' m0 =>
        simp only at hl
        split at hl
        · rename_i hcnd
          obtain ⟨rfl, rfl, htf, hsv⟩ := hcnd
          simp only [Option.some.injEq, Prod.mk.injEq] at hl
          obtain ⟨rfl, rfl⟩ := hl
          simp only [TagC] at htg ⊢
          exact ⟨⟨htg.1, Mk.tagFree_stamp hs htf⟩, .inr ⟨_, rfl, Mk.upd_of_fresh _ (Mk.fresh_stamp site htf)⟩⟩
        · simp at hl
      | _ => simp at hl
    | val t' x' => simp only [mergeV] at hl; obtain ⟨_, rfl, rfl⟩ := still_no hl; exact ⟨TagC.no _ _, trivial⟩
    | unit => simp only [mergeV] at hl; obtain ⟨_, rfl, rfl⟩ := still_no hl; exact ⟨TagC.no _ _, trivial⟩
    | _ => simp [mergeV] at hl
  | _ =>
    intro a p md xd m mm o yy c hl htg
    cases a with
    | val t' x' => simp only [mergeV] at hl; obtain ⟨_, rfl, rfl⟩ := still_no hl; exact ⟨TagC.no _ _, trivial⟩
    | unit => simp only [mergeV] at hl; obtain ⟨_, rfl, rfl⟩ := still_no hl; exact ⟨TagC.no _ _, trivial⟩
    | _ => simp [mergeV] at hl
theorem merge_paths {h h2 : Array Obj} {Pr Pr2 : BS} {site q : Nat} : ∀ (t : Ty) {a : AV} {p : Path} {md : Mk} {xd : t.den} {m mm : Mk} {o yy : t.den} {c : List Value} {base : Base} {F F1 : BS},
    mergeV site q t a p md xd m o = some (mm, yy) → Rep h Pr t md xd c F → Rep h2 Pr2 t mm yy c F1 →
    ∀ p' t1 n1, pathOk site (site + 1) p' = true → focusM t mm p' = some (t1, n1) → inR t xd p' → inR t yy p' ∧ ∀ bp cp, atP h t c base p' = some (bp, cp) →
      ∃ cp', atP h2 t c base p' = some (bp, cp') ∧ (∀ s a, n1 = .own s a → ¬ (site ≤ s ∧ s < site + 1) → cp' = cp) := by
  intro t
  have hval : ∀ (t : Ty) (c : List Value) (base : Base) (x : t.den) (p' : Path) (t1 : Ty) (n1 : Mk), pathOk site (site + 1) p' = true → focusM t .no p' = some (t1, n1) → inR t x p' → inR t x p' ∧ ∀ bp cp, atP h t c base p' = some (bp, cp) →
      ∃ cp', atP h2 t c base p' = some (bp, cp') ∧ (∀ s a, n1 = .own s a → ¬ (site ≤ s ∧ s < site + 1) → cp' = cp) := by
    intro t c base x p' t1 n1 hp hfm hi
    obtain ⟨hi', hn1⟩ := focusM_fresh (lo := site) (hi := site + 1) p' (m := .no) trivial hp hfm
    refine ⟨hi, fun bp cp ha => ?_⟩
    obtain ⟨cp', h3⟩ := atP_plain (h' := h2) p' _ c _ hi' ha
    exact ⟨cp', h3, fun s a' e hs => by subst e; exact absurd hn1 hs⟩
  have hnil : ∀ (t : Ty) (mm : Mk) (c : List Value) (base : Base) (y : t.den) (t1 : Ty) (n1 : Mk), inR t y [] ∧ ∀ bp cp, atP h t c base [] = some (bp, cp) →
      ∃ cp', atP h2 t c base [] = some (bp, cp') ∧ (∀ s a, n1 = .own s a → ¬ (site ≤ s ∧ s < site + 1) → cp' = cp) := by
    intro t mm c base y t1 n1
    refine ⟨inR_nil _ _, fun bp cp ha => ?_⟩
    rw [atP_nil] at ha
    exact ⟨cp, by rw [atP_nil]; exact ha, fun _ _ _ _ => rfl⟩
  induction t with
  | pair ta tb iha ihb =>
    intro a p md xd m mm o yy c base F F1 hl r r2 p' t1 n1 hp hfm hi
    cases a with
    | pair u v =>
      simp only [mergeV, Option.bind_eq_some_iff, Option.some.injEq, Prod.mk.injEq] at hl
      obtain ⟨y, hy, z', hz, rfl, rfl⟩ := hl
      simp only [Rep] at r r2
      obtain ⟨da, db, Fa, Fb, rfl, ra, rb, -⟩ := r
      obtain ⟨ea, eb, Ea, Eb, ee, qa, qb, -⟩ := r2
      obtain ⟨rfl, rfl⟩ := List.append_inj ee (by rw [Rep.width _ ra, Rep.width _ qa])
      have hw := Rep.width _ ra
      cases p' with
      | nil => exact hnil _ (.pr y.1 z'.1) _ _ _ t1 _
      | cons st p' =>
        cases st with
        | fst =>
          simp only [focusM, Mk.fst] at hfm
          simp only [inR] at hi ⊢
          obtain ⟨h1, h3⟩ := iha (base := base) hy ra qa p' t1 n1 (by simpa [pathOk] using hp) hfm hi
          refine ⟨h1, fun bp cp ha => ?_⟩
          simp only [atP] at ha ⊢
          rw [← hw, List.take_left' rfl] at ha ⊢
          exact h3 _ _ ha
        | snd =>
          simp only [focusM, Mk.snd] at hfm
          simp only [inR] at hi ⊢
          obtain ⟨h1, h3⟩ := ihb (base := base.map fun x => (x.1, x.2 + ta.width)) hz rb qb p' t1 n1 (by simpa [pathOk] using hp) hfm hi
          refine ⟨h1, fun bp cp ha => ?_⟩
          simp only [atP] at ha ⊢
          rw [← hw, List.drop_left' rfl] at ha ⊢
          rw [hw] at ha ⊢
          exact h3 _ _ ha
        | idx i s => simp [focusM] at hfm
    | val t' x' => simp only [mergeV] at hl; obtain ⟨_, rfl, rfl⟩ := still_no hl; exact hval _ _ _ _ _ _ _ hp hfm hi
    | unit => simp only [mergeV] at hl; obtain ⟨_, rfl, rfl⟩ := still_no hl; exact hval _ _ _ _ _ _ _ hp hfm hi
    | _ => simp [mergeV] at hl
  | sl e ih =>
    intro a p md xd m mm o yy c base F F1 hl r r2 p' t1 n1 hp hfm hi
    cases a with
    | brw r' p0 s =>
      simp only [mergeV] at hl
      cases md with
      | own s' m0 =>
        simp only at hl
        split at hl
        · rename_i hcnd
          obtain ⟨rfl, rfl, htf, hsv⟩ := hcnd
          simp only [Option.some.injEq, Prod.mk.injEq] at hl
          obtain ⟨rfl, rfl⟩ := hl
          cases p' with
          | nil => exact hnil _ .no _ _ _ t1 _
          | cons st p' =>
            cases st with
            | fst => simp [focusM] at hfm
            | snd => simp [focusM] at hfm
            | idx i s =>
              simp only [focusM] at hfm
              split at hfm
              · rename_i hss
                simp only [pathOk, Bool.and_eq_true] at hp
                obtain ⟨hip, hn1⟩ := focusM_fresh p' (Mk.fresh_stamp site htf) hp.2 hfm
                simp only [Rep] at r r2
                obtain ⟨a1, k1, rfl, hl1, r⟩ := r
                obtain ⟨a2, k2, e2, hl2, r2⟩ := r2
                simp only [List.cons.injEq, Value.slice.injEq, and_true] at e2
                obtain ⟨rfl, hlen, rfl⟩ := e2
                simp only [inR] at hi ⊢
                refine ⟨⟨hlen ▸ hi.1, inR_plain _ _ hip hfm⟩, fun bp cp ha => ?_⟩
                rcases r2 with r2 | ⟨b, cs, rfl, fb, hb, hsz, -⟩
                · omega
                obtain ⟨ty, lo, hi', he, _⟩ := hb
                simp only [atP, he]
                simp only [atP] at ha
                split at ha
                · obtain ⟨cp', h3⟩ := atP_plain (h' := h2) p' _ (sub cs (i * e.width) e.width) _ hip ha
                  exact ⟨cp', h3, fun s a' e hs => by subst e; exact absurd hn1 hs⟩
                · simp at ha
              · simp at hfm
        · simp at hl
      | _ => simp at hl
    | val t' x' => simp only [mergeV] at hl; obtain ⟨_, rfl, rfl⟩ := still_no hl; exact hval _ _ _ _ _ _ _ hp hfm hi
    | unit => simp only [mergeV] at hl; obtain ⟨_, rfl, rfl⟩ := still_no hl; exact hval _ _ _ _ _ _ _ hp hfm hi
    | _ => simp [mergeV] at hl
  | _ =>
    intro a p md xd m mm o yy c base F F1 hl r r2 p' t1 n1 hp hfm hi
    cases a with
    | val t' x' => simp only [mergeV] at hl; obtain ⟨_, rfl, rfl⟩ := still_no hl; exact hval _ _ _ _ _ _ _ hp hfm hi
    | unit => simp only [mergeV] at hl; obtain ⟨_, rfl, rfl⟩ := still_no hl; exact hval _ _ _ _ _ _ _ hp hfm hi
    | _ => simp [mergeV] at hl
theorem lend_cells {h : Array Obj} {S : St} {g : Ghost} {q : Nat} {t : Ty} {a : AV} {p : Path} {md : Mk} {xd : t.den} {z : Mk × t.den} {rp : Nat × Path} {v : Value}
    (hp : placeOf a = some rp) (hl : lendV q t a p md xd = some z) (hv : AVRel h S g a v) : ∃ c, v = mkV t c ∧ AVC h S g a c := by
  cases a with
  | brw r' p' s =>
    cases t with
    | sl e => simp only [AVRel] at hv; exact ⟨[v], by simp [mkV, Ty.agg], by simp only [AVC]; exact ⟨v, rfl, hv⟩⟩
    | _ => simp [lendV] at hl
  | pair a b =>
    cases t with
    | pair ta tb =>
      simp only [AVRel] at hv
      obtain ⟨ca, cb, rfl, h1, h2⟩ := hv
      exact ⟨ca ++ cb, by simp [mkV, Ty.agg], by simp only [AVC]; exact ⟨ca, cb, rfl, h1, h2⟩⟩
    | _ => simp [lendV] at hl
  | _ => simp [placeOf] at hp
section
variable {P : Program} {C : Ctx} {D : Den C} {S : St} {g : Ghost} {w : World} {tmps : Array Value}
variable {A : Asks} {site : Nat} (dok : DOk P C D) (st : StRel w.heap S g tmps Nil)
include dok st
theorem callMutv_ok {f : FuncId} {avs : List AV} {vs : List Value} {d : Option Nat} (ok : AOk A S d site) (hfr : site < 1048576 ∧ ∀ u, (S.get u).stampsOk site (site + 1) = true)
    (ha : AsRel w.heap S g avs vs) (hng : (C.sig f).params.all (fun k => !k.gives) = true) {gd : GDen (C.sig f).params} (h1 : argOwn S.rt (C.sig f).params avs = some (gd, S.rt))
    {od : ODen (C.sig f).params} {rt2 : Rts} {n : Nat} {u0 : AV} {v0 : Value} {q : Nat} {p : Path} {R : Root} {md : Mk} {t : Ty} {xd : t.den} {m m' mx : Mk} {x : t.den} (hav : AVRel w.heap S g u0 v0)
    (L : LentV w.heap (C.sig f).params avs vs S.rt rt2 od n u0 v0 q p R md t xd m m' mx x) {a : PDen (C.sig f).params} (h3 : argDen rt2 (C.sig f).params avs gd od = some a)
    (hs : sharedArgs (C.sig f).params avs = true ∨ (C.sig f).full = true) {r : RDen (C.sig f).res × ODen (C.sig f).params} (hD : D f a = some r) {β : Bool} {v : AV} {rt3 rt' : Rts}
    (ho : outDen S.rt site (C.sig f).params avs r.2 = some rt3) (he : (layRes A rt3 d site (C.sig f).res r.1).dec β = some (v, rt')) :
    Calls P f vs.toArray w fun e w' => ∃ val, e = .returned val ∧ Post S g w tmps v rt' val w' := by
  have hR := L.root
  have hisr : (S.root q).isSome := by show (S.rt.root q).isSome = true; rw [hR]; rfl
  obtain ⟨cu, ev0, hcu⟩ := lend_cells L.place L.lend hav
  have hin := lend_inR hR t L.foc hcu L.lend L.paths L.place
  obtain ⟨base, c, F, q1, q2, q3, q4, q5, q6⟩ := st.updateD hR L.foc hin
  have q2l := lend_rep hR t L.foc q1 q2 hcu L.lend L.paths
  have htgd : TagC g.hd t md c := TagC.at p (st.tag q R hR) L.foc q1
  obtain ⟨F1, F2, s1, s2, s3, s4⟩ := Rep.serves t L.srv q2l
  have st2 := (st.dropRootH hisr).shareHand F2 (fun z hz => .inr (q3 z (s2 z hz)))
  let g2 : Ghost := { g with Pr := Un g.Pr F2 }
  have kp2 : Kp w.heap S g (S.setRoot q none) g2 := (kp_drop st q).trans (kp_share (st.dropRootH hisr) F2)
  let Fs : Nat → BS := fun j => if j = n then F1 else Nil
  have hFs : ∀ i, Sub (Fs i) (fun z => (Nil z ∨ g.G q z) ∧ ¬ F2 z) := by
    intro i z hz
    simp only [Fs] at hz
    split at hz
    · exact ⟨.inr (q3 z (s1 z hz)), fun h => s3 z hz h⟩
    · exact hz.elim
  have e2 : rt2 = (S.setRoot q none).rt := L.rt2
  subst e2
  obtain ⟨gg1, HH1, FF, kk⟩ := argOwn_ok (sl := S.sl) (C.sig f).params avs vs S.rt g Nil 0 gd S.rt ha st h1
  have hG := gs_none (h2 := w.heap) (Pr2 := g2.Pr) (Fs2 := Fs) (C.sig f).params 0 hng kk.2.2.2.2.1
  have hL := L.ls g2.Pr Fs 0 (by
    simp only [Nat.zero_add, Fs, if_true]
    exact ⟨cu, s4, ev0⟩)
  have hps := argDen_ok st2 (sh := sharedArgs (C.sig f).params avs) (Fs := Fs) (C.sig f).params avs vs 0 gd od a (fun h => h) (ha.kp kp2) hG hL h3
  have hFsd : ∀ i j, i ≠ j → Dis (Fs i) (Fs j) := by
    intro i j hij z h1 h2
    simp only [Fs] at h1 h2
    split at h1
    · split at h2
      · omega
      · exact h2
    · exact h1
  have pre : Pre w.heap (Seen (sharedArgs (C.sig f).params avs) (S.setRoot q none) g2) Fs (C.sig f).params a vs :=
    ⟨hps, hFsd, fun i z hz => vis_dis st2 _ z (hFs i z hz), fun i z hz => st2.limH z (hFs i z hz), vis_lim st2 _⟩
  refine (dok.ok f a r hD w _ Fs vs pre).mono ?_
  rintro e w' ⟨val, Pr', Gs, Os, us, rfl, p0⟩
  obtain ⟨y, hy1, hy2⟩ := L.out r.2
  have hback := hy1 S.rt site rt3 ho
  obtain ⟨cu', repo, ev2⟩ := hy2 _ _ _ _ p0.out
  rw [Nat.zero_add] at repo
  obtain rfl : cu = cu' := mkV_inj q2l repo (ev0.symm.trans ev2)
  have hMay : ∀ z, May w.heap.size Fs z → w.heap.size ≤ z ∨ F1 z := by
    rintro z (h | ⟨i, h⟩)
    · exact .inl h
    · simp only [Fs] at h
      split at h
      · exact .inr h
      · exact h.elim
  let D0 : BS := fun z => sharedArgs (C.sig f).params avs = true ∧ Pr' z ∧ ¬ g.Pr z
  have hD0 : ∀ z, D0 z → F z ∨ Nil z ∨ w.heap.size ≤ z := by
    rintro z ⟨hsh, h1, h2⟩
    rcases p0.prL z h1 with h3 | h3
    · rw [hsh] at h3
      simp only [Seen, if_true] at h3
      rcases h3 with h3 | h3
      · exact absurd h3 h2
      · exact .inl (s2 z h3)
    · rcases hMay z h3 with h4 | h4
      · exact .inr (.inr h4)
      · exact .inl (s1 z h4)
  have hOm : ∀ z, Os n z → F z ∨ Nil z ∨ w.heap.size ≤ z := by
    intro z hz
    rcases hMay z (p0.oL n z hz) with h4 | h4
    · exact .inr (.inr h4)
    · exact .inl (s1 z h4)
  have hfull : sharedArgs (C.sig f).params avs = false → (C.sig f).full = true := fun h => hs.resolve_left (by rw [h]; simp)
  have rep3 : Rep w'.heap (Un g.Pr D0) t m' y cu (Os n) := by
    cases hsh : sharedArgs (C.sig f).params avs with
    | true =>
      refine Rep.mono (fun z hz => ?_) (fun _ _ => rfl) _ repo (Sub.refl _) (fun _ _ => rfl)
      by_cases h1 : g.Pr z
      · exact .inl h1
      · exact .inr ⟨hsh, hz, h1⟩
    | false =>
      have h5 := hfull hsh
      simp only [Sig.full, Bool.and_eq_true] at h5
      exact Rep.fullMk _ (L.full h5.1) repo
  have hkF : ∀ z, z < w.heap.size → ¬ F z → w'.heap[z]? = w.heap[z]? := fun z hz hnF => p0.fr.block z hz (fun h => by
      rcases hMay z h with h4 | h4
      · omega
      · exact hnF (s1 z h4))
  have hkP : ∀ b, g.Pr b → w'.heap[b]? = w.heap[b]? := fun b hb => hkF b (st.limPr b hb) (fun h => st.prot q hisr b (q3 b h) hb)
  unfold backAV at hback
  rw [L.place] at hback
  simp only at hback
  rw [hR] at hback
  simp only [Option.bind_eq_some_iff] at hback
  obtain ⟨dd, hdd, hback⟩ := hback
  rw [L.foc] at hdd
  simp only [Option.some.injEq] at hdd
  subst hdd
  simp only [↓reduceDIte, Option.bind_eq_some_iff] at hback
  obtain ⟨⟨mm, yy⟩, hmg, hback⟩ := hback
  simp only at hback
  split at hback
  · simp at hback
  rename_i hidx
  simp only [Option.bind_eq_some_iff, Option.some.injEq] at hback
  obtain ⟨⟨mr, xr⟩, hput, hback⟩ := hback
  subst hback
  obtain ⟨G1, G2, t1, t2, t3, rep4⟩ := merge_rep (site := site) hR (fun z hz => Or.inl hz) hkP t L.foc q1 q2 hcu rep3 ⟨_, L.lend⟩ L.paths hmg
  obtain ⟨htg, hupd⟩ := merge_tag hfr.1 t hmg htgd
  have hpaths := merge_paths (base := base) t hmg q2 rep4
  let Dd : BS := fun z => D0 z ∨ G2 z
  have hDd : ∀ z, Dd z → F z ∨ Nil z ∨ w.heap.size ≤ z := by
    rintro z (h | h)
    · exact hD0 z h
    · exact hOm z (t2 z h)
  obtain ⟨g', k1, k2, k3, k4, k5, k6, k7⟩ := q6 site (site + 1) w'.heap mm yy c G1 Dd mr xr hfr.2
    (fun z hz hnF _ => hkF z hz hnF)
    p0.fr.size
    (by
      intro b o e cs hcs
      obtain ⟨cs2, h5, h6⟩ := Upd.self q4 b o e cs hcs
      exact ⟨cs2, h5.congr (hkF b (by obtain ⟨_, _, _, h7, _⟩ := hcs; exact (Array.getElem?_eq_some_iff.1 h7).1) (q4 b o e).1), h6⟩)
    (Rep.mono (fun z hz => hz.elim (fun h => h.imp id .inl) (fun h => .inr (.inr h))) (fun _ _ => rfl) _ rep4 (Sub.refl _) (fun _ _ => rfl))
    (fun z h1 h2 => h1.elim (fun h1 => p0.op n z (t1 z h2) h1.2.1) (fun h1 => t3 z h2 h1))
    (fun z hz => hz.elim (fun h => hOm z (t1 z h)) (hDd z))
    (fun z hz => hz.elim (fun h => p0.olim n z (t1 z h)) (fun h => h.elim (fun h => p0.plim z h.2.1) (fun h => p0.olim n z (t2 z h))))
    hput hupd htg (fun h => by simpa [h] using hidx) hpaths
  have hres : RsRel w'.heap g'.Pr Gs 0 (C.sig f).res r.1 us := by
    refine RsRel.conv _ 0 ?_ p0.res
    cases hsh : sharedArgs (C.sig f).params avs with
    | true =>
      refine .inl (fun z hz => ?_)
      by_cases h1 : g.Pr z
      · exact k2 z h1
      · exact k3 z (.inl ⟨hsh, hz, h1⟩)
    | false =>
      have h5 := hfull hsh
      simp only [Sig.full, Bool.and_eq_true] at h5
      exact .inr h5.2
  have hGH : ∀ i, Sub (Gs i) (fun z => (Nil z ∨ F z ∨ (w.heap.size ≤ z ∧ z < w'.heap.size)) ∧ ¬ (G1 z ∨ Dd z)) := by
    intro i z hz
    refine ⟨?_, ?_⟩
    · rcases hMay z (p0.gL i z hz) with h4 | h4
      · exact .inr (.inr ⟨h4, p0.glim i z hz⟩)
      · exact .inr (.inl (s1 z h4))
    · rintro (h | h | h)
      · exact p0.go i n z hz (t1 z h)
      · exact p0.gp i z hz h.2.1
      · exact p0.go i n z hz (t2 z h)
  obtain ⟨g4, u1, u2, u3⟩ := layRes_ok (S := S) k1 hGH p0.gdis ok (C.sig f).res hres he
  refine ⟨val, rfl, g4, u1, by rw [p0.val]; exact u2, k4.trans u3, p0.fr.mono ?_⟩
  intro z hz h
  rcases hMay z h with h4 | h4
  · omega
  · exact st.own q _ hisr (q3 z (s1 z h4))
end
end Go.V

namespace Go.V
open Go
theorem AsRel.append {h : Array Obj} {S : St} {g : Ghost} : ∀ {avs bs : List AV} {vs ws : List Value}, AsRel h S g avs vs → AsRel h S g bs ws → AsRel h S g (avs ++ bs) (vs ++ ws)
  | [], bs, vs, ws, k, k2 => by simp only [AsRel] at k; subst k; simpa using k2
  | a :: avs, bs, vs, ws, k, k2 => by
    obtain ⟨v, vs', rfl, r1, r2⟩ := k
    exact ⟨v, vs' ++ ws, rfl, r1, AsRel.append r2 k2⟩
theorem tup_as {h : Array Obj} {S : St} {g : Ghost} : ∀ {c : AV} {vs : List Value}, TupRel h S g c vs → AsRel h S g (avList c) vs
  | .unit, vs, k => by simp only [TupRel] at k; exact k
  | .pair a b, vs, k => by
    simp only [TupRel] at k
    obtain ⟨v, vs', rfl, r1, r2⟩ := k
    exact ⟨v, vs', rfl, r1, tup_as r2⟩
  | .undef, _, k => by simp only [TupRel] at k
  | .skip, _, k => by simp only [TupRel] at k
  | .litB _, _, k => by simp only [TupRel] at k
  | .nils, _, k => by simp only [TupRel] at k
  | .val _ _, _, k => by simp only [TupRel] at k
  | .brw _ _ _, _, k => by simp only [TupRel] at k
  | .view _ _ _ _ _, _, k => by simp only [TupRel] at k
  | .addr _ _, _, k => by simp only [TupRel] at k
  | .raddr _ _, _, k => by simp only [TupRel] at k
  | .tup _, _, k => by simp only [TupRel] at k
  | .clo _ _, _, k => by simp only [TupRel] at k
  | .cloV _, _, k => by simp only [TupRel] at k
theorem as_map {h : Array Obj} {S : St} {g : Ghost} {ρ : Operand → AV} {ev : Operand → Value} (hρ : ∀ x, AVRel h S g (ρ x) (ev x)) : ∀ (l : List Operand), AsRel h S g (l.map ρ) (l.map ev)
  | [] => rfl
  | x :: l => ⟨_, _, rfl, hρ x, as_map hρ l⟩
theorem oneRes_ok {h : Array Obj} {Pr : BS} {Gs : Nat → BS} {us : List Value} : ∀ (rs : List RK) (r : RDen rs) (t : Ty) (y : t.den), oneRes rs r t = some y → RsRel h Pr Gs 0 rs r us →
    ∃ c F m, us = [mkV t c] ∧ Rep h Pr t m y c F
  | [], r, t, y, hy, k => by simp [oneRes] at hy
  | [.val t' m], r, t, y, hy, k => by
    simp only [oneRes] at hy
    obtain ⟨u, vs', rfl, ⟨c, rr, rfl⟩, k2⟩ := k
    simp only [RsRel] at k2
    subst k2
    obtain ⟨rfl, rr2⟩ := Rep.cast hy rr
    exact ⟨c, _, m, rfl, rr2⟩
  | [.ptr t' m], r, t, y, hy, k => by simp [oneRes] at hy
  | .val _ _ :: _ :: _, r, t, y, hy, k => by simp [oneRes] at hy
  | .ptr _ _ :: _ :: _, r, t, y, hy, k => by simp [oneRes] at hy
section
variable {P : Program} {C : Ctx} {D : Den C} {S : St} {g : Ghost} {w : World} {tmps : Array Value} {a : Act} {ρ : Operand → AV}
variable {A : Asks} {site : Nat} {hint : Bool} (hty : AllTy P C) (dok : DOk P C D) (st : StRel w.heap S g tmps Nil) (hρ : ∀ x, AVRel w.heap S g (ρ x) (a.eval x))
include dok st
theorem callT_ok {f : FuncId} {avs : List AV} {vs : List Value} {d : Option Nat} (ok : AOk A S d site) (ha : AsRel w.heap S g avs vs) (ht : Tot (callT C D A S.rt d site f avs)) :
    Calls P f vs.toArray w fun | .returned val, w'' => Outs S g w tmps (callT C D A S.rt d site f avs) val w'' | _, _ => False := by
  obtain ⟨⟨v, rt'⟩, hd⟩ := ht true
  have hcall : ∀ {Q : Value → World → Prop}, Calls P f vs.toArray w (fun e w' => ∃ val, e = .returned val ∧ Post S g w tmps v rt' val w') →
      Calls P f vs.toArray w fun | .returned val, w'' => Outs S g w tmps (callT C D A S.rt d site f avs) val w'' | _, _ => False := by
    intro Q h
    refine h.mono ?_
    rintro e w' ⟨val, rfl, hp⟩
    exact ⟨true, v, rt', hd, hp⟩
  refine hcall (Q := fun _ _ => True) ?_
  clear hcall
  unfold callT at hd
  cases h1 : argOwn S.rt (C.sig f).params avs with
  | none => rw [h1] at hd; simp [Tr.dec] at hd
  | some z =>
    obtain ⟨gd, rt1⟩ := z
    rw [h1] at hd
    simp only at hd
    cases h2 : argLend rt1 (C.sig f).params avs with
    | none => rw [h2] at hd; simp [Tr.dec] at hd
    | some z =>
      obtain ⟨od, rt2⟩ := z
      rw [h2] at hd
      simp only at hd
      cases h3 : argDen rt2 (C.sig f).params avs gd od with
      | none => rw [h3] at hd; simp [Tr.dec] at hd
      | some aa =>
        rw [h3] at hd
        simp only at hd
        by_cases hc : (oneLend (C.sig f).params && (sharedArgs (C.sig f).params avs || (C.sig f).full)) = true
        · rw [if_pos hc] at hd
          simp only [Bool.and_eq_true, Bool.or_eq_true] at hc
          simp only [Tr.dec, Option.bind_eq_some_iff] at hd
          obtain ⟨r, hD, hd⟩ := hd
          by_cases hn : (C.sig f).params.all (fun k => !k.lends) = true
          · rw [if_pos hn] at hd
            exact callPlain_ok dok st ok ha h1 hn h2 h3 hc.2 hD hd
          · rw [if_neg hn] at hd
            by_cases hfr : A.fr = true
            · rw [if_pos hfr] at hd
              cases hlo : lendsOk (C.sig f).params avs with
              | false => rw [hlo] at hd; simp [Tr.dec] at hd
              | true =>
              rw [hlo] at hd
              simp only [Tr.dec] at hd
              cases h4 : outDen rt1 site (C.sig f).params avs r.2 with
              | none => rw [h4] at hd; simp [Tr.dec] at hd
              | some rt3 =>
                rw [h4] at hd
                simp only at hd
                have hone : (List.filter PK.lends (C.sig f).params).length = 1 ∧ (C.sig f).params.all (fun k => !k.gives) = true := by
                  have := hc.1
                  unfold oneLend at this
                  split at this
                  · rename_i h5
                    exfalso
                    rw [List.filter_eq_nil_iff] at h5
                    exact hn (by simpa using h5)
                  · rename_i h5; rw [h5]; exact ⟨rfl, this⟩
                  · simp at this
                obtain rfl := argOwn_none _ _ _ _ _ hone.2 h1
                obtain ⟨n, a0, v0, hav, hcase⟩ := lend_one (C.sig f).params avs vs S.rt rt2 od hone.1 ha h2 hlo
                rcases hcase with ⟨q, t, m, m', R, x, rfl, L⟩ | ⟨q, p, R, md, t, xd, m, m', mx, x, L⟩
                · exact callMutp_ok dok st ok (ok.fr hfr) ha hone.2 h1 hav L h3 hc.2 hD h4 hd
                · exact callMutv_ok dok st ok (ok.fr hfr) ha hone.2 h1 hav L h3 hc.2 hD h4 hd
            · rw [if_neg hfr] at hd; simp [Tr.dec] at hd
        · rw [if_neg hc] at hd; simp [Tr.dec] at hd
theorem rdAll_ok : ∀ (ts : List Ty) (avs : List AV) (vs : List Value) (l : List CapV), AsRel w.heap S g avs vs → rdAll S.rt ts avs = some l → CapsOk w.heap (PG (Vis S g)) l vs
  | [], avs, vs, l, ha, hb => by
    cases avs with
    | nil => simp only [rdAll, Option.some.injEq] at hb; subst hb; exact ha
    | cons a avs => simp [rdAll] at hb
  | t :: ts, [], vs, l, ha, hb => by simp [rdAll] at hb
  | t :: ts, a :: avs, vs, l, ha, hb => by
    obtain ⟨v, vs', rfl, r1, r2⟩ := ha
    simp only [rdAll, Option.bind_eq_some_iff, Option.some.injEq] at hb
    obtain ⟨x, hx, l', hl, rfl⟩ := hb
    obtain ⟨c, e, r⟩ := rd_ok st t hx r1
    exact ⟨v, vs', rfl, ⟨c, r, e⟩, rdAll_ok ts avs vs' l' r2 hl⟩
theorem caps_append {h : Array Obj} {g : Ghost} : ∀ {l l2 : List CapV} {vs ws : List Value}, CapsOk h g l vs → CapsOk h g l2 ws → CapsOk h g (l ++ l2) (vs ++ ws)
  | [], _, vs, ws, k, k2 => by simp only [CapsOk] at k; subst k; simpa using k2
  | c :: l, _, vs, ws, k, k2 => by
    obtain ⟨v, vs', rfl, r1, r2⟩ := k
    exact ⟨v, vs' ++ ws, rfl, r1, caps_append r2 k2⟩
theorem pack_ok {h : Array Obj} {Pr : BS} {Fs : Nat → BS} : ∀ (ks : List PK) (l : List CapV) (vs : List Value) (i : Nat) (aa : PDen ks), packDen ks l = some aa → CapsOk h (PG Pr) l vs → PsRel h Pr Fs i ks aa vs ∧ ks.all PK.plain = true
  | [], l, vs, i, aa, hp, hc => by
    cases l with
    | nil => exact ⟨hc, rfl⟩
    | cons c l => simp [packDen] at hp
  | k :: ks, [], vs, i, aa, hp, hc => by cases k <;> simp [packDen] at hp
  | k :: ks, c :: l, vs, i, aa, hp, hc => by
    obtain ⟨v, vs', rfl, r1, r2⟩ := hc
    cases k with
    | val t =>
      cases c with
      | val t' x =>
        simp only [packDen, Option.bind_eq_some_iff, Option.some.injEq] at hp
        obtain ⟨y, hy, r, hr, rfl⟩ := hp
        obtain ⟨c, rr, e⟩ := r1
        obtain ⟨rfl, rr2⟩ := Rep.cast hy rr
        obtain ⟨p1, p2⟩ := pack_ok ks l vs' (i + 1) r hr r2
        exact ⟨⟨v, vs', rfl, ⟨c, rr2, e⟩, p1⟩, by simpa [PK.plain] using p2⟩
      | _ => simp [packDen] at hp
    | rptr t =>
      cases c with
      | rptr t' x =>
        simp only [packDen, Option.bind_eq_some_iff, Option.some.injEq] at hp
        obtain ⟨y, hy, r, hr, rfl⟩ := hp
        obtain ⟨e1, e2⟩ := castTo_some hy
        subst e1
        simp only at e2
        subst e2
        obtain ⟨p1, p2⟩ := pack_ok ks l vs' (i + 1) r hr r2
        exact ⟨⟨v, vs', rfl, r1, p1⟩, by simpa [PK.plain] using p2⟩
      | _ => simp [packDen] at hp
    | _ => cases c <;> simp [packDen] at hp
theorem scalar_conv {h : Array Obj} {Pr Pr2 : BS} {t : Ty} {m : Mk} {x : t.den} {c : List Value} {F F2 : BS} (hs : t.scalar = true) (r : Rep h Pr t m x c F) : Rep h Pr2 t .no x c F2 := by
  cases t <;> simp [Ty.scalar] at hs <;> simpa only [Rep] using r
theorem applyClo_ok {cl : Clo} {xs : List CapV} {t : Ty} {y : t.den} {vs ws : List Value} (hs : t.scalar = true) (hy : applyClo C D cl xs t = some y) (hx : CapsOk w.heap (PG (Vis S g)) xs vs) (hw : CapsOk w.heap g cl.caps ws) :
    Calls P cl.f (vs ++ ws).toArray w fun e w' => ∃ val, e = .returned val ∧ Post S g w tmps (.val t y) S.rt val w' := by
  simp only [applyClo, Option.bind_eq_some_iff] at hy
  obtain ⟨aa, ha, r, hD, hr⟩ := hy
  obtain ⟨hps, hpl⟩ := pack_ok dok st (Fs := fun _ => Nil) (C.sig cl.f).params _ _ 0 aa ha (caps_append dok st hx (caps_pg st (fun b hb => .inl hb : Sub g.Pr (Vis S g)) hw))
  have hv := vis_dis st false
  have pre : Pre w.heap (Vis S g) (fun _ => Nil) (C.sig cl.f).params aa (vs ++ ws) :=
    ⟨hps, fun _ _ _ => Dis.nil _, fun _ => Dis.nil _, fun _ _ h => h.elim, vis_lim st false⟩
  refine (dok.ok cl.f aa r hD w _ _ _ pre).mono ?_
  rintro e w' ⟨val, Pr', Gs, Os, us, rfl, p⟩
  have hMay : ∀ z, May w.heap.size (fun _ => Nil) z → w.heap.size ≤ z := fun z h => h.elim id (fun ⟨_, h⟩ => h.elim)
  have st1 := st.grow (h2 := w'.heap) (fun b hb => p.fr.block b hb (fun h => absurd (hMay b h) (by omega))) p.fr.size Nil (fun b hb => hb.elim)
  obtain ⟨c, F, m, hus, rr⟩ := oneRes_ok _ _ _ _ hr p.res
  refine ⟨val, rfl, g, st1, ?_, .refl g, p.fr.mono (fun z hz h => absurd (hMay z h) (by omega))⟩
  rw [p.val, hus]
  simp only [AVRel, resVal]
  exact ⟨c, scalar_conv dok st hs rr, rfl⟩
include hty hρ
theorem call_ok {o : Oper} {c : Call} {f : Operand} (ho : o.op = .call c) (hc : c.callee = .value f) (ok : AOk A S o.dst site) : Goal P C D S g w tmps a ρ A site hint o := by
  intro ht
  have hcalled : ∀ (ff : FuncId) (vs : List Value), Callable P ff → a.eval f = .func (.func ff) #[] vs.toArray →
      (execOp a.eval o).run P w = .ok (.enter ff (c.args.toList.map a.eval ++ vs).toArray) w := by
    rintro ff vs ⟨fn, h1, h2, h3⟩ hv
    have hb : ¬ fn.body = none := by intro hh; rw [hh] at h3; simp at h3
    have harr : c.args.map a.eval ++ vs.toArray = (c.args.toList.map a.eval ++ vs).toArray := by
      apply Array.ext'; simp
    simp [execOp, ho, resolve, hc, Deferred.ofValue, hv, invoke, callFunc, h1, h2, hb, Sem.run_bind, ← harr]
  simp only [opT, ho, hc] at ht ⊢
  have hf := hρ f
  split at ht
  · rename_i ff caps hv
    rw [hv] at hf
    simp only [AVRel] at hf
    obtain ⟨vs, ev, htup⟩ := hf
    have ha := AsRel.append (as_map hρ c.args.toList) (tup_as htup)
    have hcal : Callable P ff := by
      obtain ⟨⟨v, rt'⟩, hd⟩ := ht true
      unfold callT at hd
      split at hd
      · simp [Tr.dec] at hd
      · split at hd
        · simp [Tr.dec] at hd
        · split at hd
          · simp [Tr.dec] at hd
          · split at hd
            · simp only [Tr.dec, Option.bind_eq_some_iff] at hd
              obtain ⟨r, hD, _⟩ := hd
              exact dok.call _ _ _ hD
            · simp [Tr.dec] at hd
    rw [hcalled ff vs hcal ev]
    exact callT_ok dok st ok ha ht
  · rename_i cl hv
    rw [hv] at hf
    simp only [AVRel] at hf
    obtain ⟨vs, ev, hcaps⟩ := hf
    by_cases hsc : (C.ty o.type).scalar = true
    · simp only [hsc, if_true] at ht ⊢
      cases hx : rdAll S.rt (c.argTypes.toList.map C.ty) (c.args.toList.map ρ) with
      | none => rw [hx] at ht; exact absurd ht Tot.fail
      | some xs =>
        rw [hx] at ht
        simp only at ht ⊢
        obtain ⟨⟨v, rt'⟩, hd⟩ := ht true
        have hd0 := hd
        simp only [Tr.dec, Option.bind_eq_some_iff, Option.some.injEq, Prod.mk.injEq] at hd
        obtain ⟨y, hy, rfl, rfl⟩ := hd
        have hcal : Callable P cl.f := by
          have := hy
          simp only [applyClo, Option.bind_eq_some_iff] at this
          obtain ⟨aa, _, r, hD, _⟩ := this
          exact dok.call _ _ _ hD
        rw [hcalled cl.f vs hcal ev]
        have hxs := rdAll_ok dok st _ _ _ _ (as_map hρ c.args.toList) hx
        refine (applyClo_ok dok st hsc hy hxs hcaps).mono ?_
        rintro e w' ⟨val, rfl, hp⟩
        exact ⟨true, _, _, hd0, hp⟩
    · rw [if_neg hsc] at ht; exact absurd ht Tot.fail
  · exact absurd ht Tot.fail
theorem opAll_ok {o : Oper} (ok : AOk A S o.dst site) : Goal P C D S g w tmps a ρ A site hint o :=
  op_ok hty st hρ ok fun c f ho hc => call_ok hty dok st hρ ho hc ok
end
end Go.V

namespace Go.V
open Go
theorem noMen_at {d : Nat} : ∀ (l : List AV) (i : Nat), noMen d i l = true → ∀ k, i + k ≠ d → (l.getD k .undef).roots.contains d = false
  | [], i, _, k, _ => by simp [List.getD, AV.roots]
  | v :: l, i, h, k, hk => by
    simp only [noMen, Bool.and_eq_true, Bool.or_eq_true, Bool.not_eq_true', beq_iff] at h
    cases k with
    | zero => exact h.1.resolve_left (by simpa using hk)
    | succ k => simpa [List.getD] using noMen_at l (i + 1) h.2 k (by omega)
theorem noPl_at {d : Nat} : ∀ (l : List AV) (i : Nat), noPlAll d i l = true → ∀ k, i + k ≠ d → (l.getD k .undef).noPl d = true
  | [], i, _, k, _ => by simp [List.getD, AV.noPl]
  | v :: l, i, h, k, hk => by
    simp only [noPlAll, Bool.and_eq_true, Bool.or_eq_true, beq_iff] at h
    cases k with
    | zero => exact h.1.resolve_left (by simpa using hk)
    | succ k => simpa [List.getD] using noPl_at l (i + 1) h.2 k (by omega)
theorem fresh_at {s : Nat} : ∀ (l : List AV), allFresh s l = true → ∀ k, (l.getD k .undef).stampsOk s (s + 1) = true
  | [], _, k => by simp [List.getD, AV.stampsOk]
  | v :: l, h, k => by
    simp only [allFresh, Bool.and_eq_true] at h
    cases k with
    | zero => exact h.1
    | succ k => simpa [List.getD] using fresh_at l h.2 k
def St.blank (S : St) : Option Nat → St
  | some d => S.set d .undef
  | none => S
theorem blank_get (S : St) (d : Nat) (u : Nat) : (S.blank (some d)).get u = if u = d then .undef else S.get u := by
  simp only [St.blank, St.get_set]
  by_cases e : u = d
  · subst e
    by_cases h : u < S.sl.length
    · simp [h]
    · simp only [h, and_false, if_false, if_true]
      simp only [St.get, List.getD]
      rw [List.getElem?_eq_none (by omega)]; rfl
  · simp [e]
theorem asks_ok (S : St) (d : Option Nat) (site : Nat) : AOk (asksOf S.sl d site) (S.blank d) d site where
  men := by
    intro h d' hd u
    subst hd
    simp only [asksOf] at h
    rw [blank_get]
    split
    · rfl
    · rename_i hu; exact noMen_at S.sl 0 h u (by omega)
  pl := by
    intro h d' hd u
    subst hd
    simp only [asksOf] at h
    rw [blank_get]
    split
    · rfl
    · rename_i hu; exact noPl_at S.sl 0 h u (by omega)
  fr := by
    intro h
    simp only [asksOf, Bool.and_eq_true, blt_lt] at h
    refine ⟨h.1, fun u => ?_⟩
    cases d with
    | none => exact fresh_at S.sl h.2 u
    | some d =>
      rw [blank_get]
      split
      · rfl
      · exact fresh_at S.sl h.2 u
theorem constAV_ok {h : Array Obj} {S : St} {g : Ghost} (v : Value) : AVRel h S g (constAV v) v := by
  unfold constAV
  split
  · simp only [AVRel, Rep]; exact ⟨_, rfl, rfl⟩
  · simp only [AVRel, Rep]; exact ⟨_, rfl, rfl⟩
  · simp only [AVRel, Rep]; exact ⟨_, rfl, rfl⟩
  · simp only [AVRel]
  · simp only [AVRel]
theorem flat_ok {h : Array Obj} {S : St} {g : Ghost} {a : AV} {v : Value} (x : AVRel h S g a v) : AVRel h S g a.flat v := by
  cases a with
  | litB b => simp only [AVRel] at x; subst x; simp only [AV.flat, AVRel, Rep]; exact ⟨_, rfl, rfl⟩
  | _ => exact x
theorem ev_ok {h : Array Obj} {S : St} {g : Ghost} {a : Act} {H : BS} (st : StRel h S g a.tmps H) (x : Operand) : AVRel h S g (ev S x) (a.eval x) := by
  cases x with
  | tmp t => exact flat_ok (st.slots t)
  | const v => exact constAV_ok v
  | func f => simp only [ev, AVRel, Act.eval]; exact ⟨[], rfl, by simp only [TupRel]⟩
  | global n => simp only [ev, AVRel]
def forgetL : List AV → List Nat → List AV
  | sl, [] => sl
  | sl, t :: ts => forgetL (sl.set t .undef) ts
theorem forget_eq : ∀ (ts : List Nat) (S : St), S.forget ts = ⟨forgetL S.sl ts, S.rt⟩
  | [], _ => rfl
  | t :: ts, S => by simp only [St.forget, forgetL]; rw [forget_eq ts]; rfl
theorem forgetL_set (d : Nat) (x v : AV) : ∀ (ts : List Nat) (sl : List AV), (forgetL (sl.set d x) ts).set d v = (forgetL sl ts).set d v
  | [], sl => by simp [forgetL]
  | t :: ts, sl => by
    simp only [forgetL]
    by_cases e : d = t
    · subst e; rw [List.set_set]
    · rw [List.set_comm _ _ e]
      exact forgetL_set d x v ts _
theorem StRel.forgetAll {h : Array Obj} {g : Ghost} {tmps : Array Value} {H : BS} : ∀ (ts : List Nat) {S : St}, StRel h S g tmps H → StRel h (S.forget ts) g tmps H
  | [], _, st => st
  | t :: ts, _, st => StRel.forgetAll ts (st.forget t)
section
variable (C : Ctx) (D : Den C)
def guardB (ops : Array Oper) (S : St) (o : Oper) : Option Bool :=
  match o.guard with
  | none => some true
  | some (j, b) =>
    match S.get (dstOf ops j) with
    | .skip => some false
    | .litB c => some (c == b)
    | .val .bool c => some (c == b)
    | _ => none
noncomputable def stepD (hints : Hints) (id : Nat) (ops : Array Oper) (β : Bool) (S : St) (i : Nat) (o : Oper) : Option (St × Ent) :=
  match guardB ops S o with
  | some true => ((opAt C D S (id * 256 + i + 1) (hints.share.contains (id, i)) o).dec β).map fun x => (fin ops ⟨S.sl, x.2⟩ i o x.1, entOf C ops S (id * 256 + i + 1) i o x.1 x.2)
  | some false => some (fin ops S i o .skip, entSkip ops S (id * 256 + i + 1) i o)
  | none => none
end
def Fixed (np : List Nat) (a a' : Act) : Prop := ∀ t, t ∈ np → a'.tmps.getD t Go.undef = a.tmps.getD t Go.undef
theorem Fixed.refl (np : List Nat) (a : Act) : Fixed np a a := fun _ _ => rfl
theorem Fixed.trans {np : List Nat} {a b c : Act} (h : Fixed np a b) (k : Fixed np b c) : Fixed np a c := fun t ht => (k t ht).trans (h t ht)
theorem Fixed.put {np : List Nat} {a : Act} {d : Option Nat} {v : Value} (h : ∀ d', d = some d' → d' ∉ np) : Fixed np a (a.put d v) := by
  intro t ht
  cases d with
  | none => rfl
  | some d =>
    have := h d rfl
    simp only [Act.put, Array.getD_eq_getD_getElem?, Array.getElem?_setIfInBounds]
    rw [if_neg (by rintro rfl; exact this ht)]
section
variable {P : Program} {C : Ctx} {D : Den C} {S : St} {g : Ghost} {w : World} {a : Act} {np : List Nat}
variable (hty : AllTy P C) (dok : DOk P C D) (st : StRel w.heap S g a.tmps Nil)
include hty dok st
theorem fin_ok {ops : Array Oper} {i : Nat} {o : Oper} {rt' : Rts} {g' : Ghost} {h' : Array Obj} {v : AV} {val : Value} (st' : StRel h' ⟨(S.blank o.dst).sl, rt'⟩ g' a.tmps Nil)
    (x : AVRel h' ⟨(S.blank o.dst).sl, rt'⟩ g' v val) : StRel h' (fin ops ⟨S.sl, rt'⟩ i o v) g' (a.put o.dst val).tmps Nil := by
  have s1 := StRel.forgetAll (forgetOf ops i o) st'
  have e1 := forget_eq (forgetOf ops i o) (⟨(S.blank o.dst).sl, rt'⟩ : St)
  unfold fin setDst
  cases hd : o.dst with
  | none =>
    rw [hd] at s1
    simp only [Act.put]
    exact s1
  | some d =>
    rw [hd] at s1 x e1
    have x1 : AVRel h' ((⟨(S.blank (some d)).sl, rt'⟩ : St).forget (forgetOf ops i o)) g' v val := by
      have st'' := st'
      rw [hd] at st''
      exact AVRel.sameRoots st'' (by rw [e1]) x
    have s2 := s1.setSlot d x1
    simp only [Act.put]
    have e2 : (((⟨(S.blank (some d)).sl, rt'⟩ : St).forget (forgetOf ops i o)).set d v) = (((⟨S.sl, rt'⟩ : St).forget (forgetOf ops i o)).set d v) := by
      rw [forget_eq, forget_eq]
      simp only [St.set, St.blank, St.mk.injEq, and_true]
      exact forgetL_set d _ _ _ _
    rw [e2] at s2
    exact s2
theorem guard_ok {ops : Array Oper} {o : Oper} {b : Bool} (hj : ∀ j c, o.guard = some (j, c) → ∃ oj t, ops[j]? = some oj ∧ oj.dst = some t) (hg : guardB ops S o = some b) : Region.wanted o (yielded ops a.tmps) = b := by
  unfold guardB at hg
  unfold Region.wanted
  cases hgd : o.guard with
  | none => rw [hgd] at hg; simp only [Option.some.injEq] at hg; exact hg
  | some jc =>
    obtain ⟨j, c⟩ := jc
    rw [hgd] at hg
    obtain ⟨oj, t, h1, h2⟩ := hj j c hgd
    have hd : dstOf ops j = t := by simp [dstOf, h1, h2]
    have hs := st.slots t
    simp only at hg ⊢
    rw [hd] at hg
    have hy : yielded ops a.tmps j = match a.tmps.getD t Go.undef with | .bool b => some b | _ => none := by
      simp only [yielded, h1, h2, Option.bind_some, Array.getD_eq_getD_getElem?]
      cases hq : a.tmps[t]? with
      | none => simp [Go.undef]
      | some q => cases q <;> simp
    rw [hy]
    cases hS : S.get t with
    | skip => rw [hS] at hg hs; simp only [AVRel] at hs; simp only [Option.some.injEq] at hg; subst hg; rw [hs]; rfl
    | litB q => rw [hS] at hg hs; simp only [AVRel] at hs; simp only [Option.some.injEq] at hg; subst hg; rw [hs]; cases q <;> cases c <;> rfl
    | val t x =>
      rw [hS] at hg hs
      cases t with
      | bool => simp only [Option.some.injEq] at hg; subst hg; rw [val_bool hs]; cases x <;> cases c <;> rfl
      | _ => simp at hg
    | _ => rw [hS] at hg; simp at hg
theorem step_ok {Q : Exit → Act → World → Prop} {hints : Hints} {id : Nat} {ops : Array Oper} {i : Nat} {o : Oper} (hi : ops[i]? = some o) (hj : ∀ j c, o.guard = some (j, c) → ∃ oj t, ops[j]? = some oj ∧ oj.dst = some t)
    (hdf : a.defers = []) (hnp : ∀ d, o.dst = some d → d ∉ np) (ht : ∀ β, ∃ x, stepD C D hints id ops β S i o = some x) {K : Act → World → Prop}
    (hK : ∀ β S' e a' w' g', stepD C D hints id ops β S i o = some (S', e) → StRel w'.heap S' g' a'.tmps Nil → g'.Same g → WFr g.L w w' → a'.defers = [] → Fixed np a a' → K a' w') : wpOp P ops Q i K a w := by
  obtain ⟨x0, hx0⟩ := ht true
  unfold wpOp
  simp only [hi]
  cases hg : guardB ops S o with
  | none => unfold stepD at hx0; rw [hg] at hx0; simp at hx0
  | some b =>
    rw [guard_ok hty dok st hj hg]
    cases b with
    | false =>
      simp only [Bool.false_eq_true, if_false]
      have hst : stepD C D hints id ops true S i o = some (fin ops S i o .skip, entSkip ops S (id * 256 + i + 1) i o) := by unfold stepD; rw [hg]
      refine hK true _ _ (a.put o.dst Go.undef) w g hst ?_ (.refl g) (.refl _ _) ?_ (.put hnp)
      · have s0 : StRel w.heap ⟨(S.blank o.dst).sl, S.rt⟩ g a.tmps Nil := by
          cases hd : o.dst with
          | none => exact st
          | some d => exact st.forget d
        exact fin_ok hty dok st s0 (by simp only [AVRel])
      · cases o.dst <;> exact hdf
    | true =>
      simp only [if_true]
      refine .inl ?_
      have s0 : StRel w.heap (S.blank o.dst) g a.tmps Nil := by
        cases hd : o.dst with
        | none => exact st
        | some d => exact st.forget d
      have hrt : (S.blank o.dst).rt = S.rt := by cases o.dst <;> rfl
      have hρ : ∀ x, AVRel w.heap (S.blank o.dst) g (ev S x) (a.eval x) := fun x => AVRel.sameRoots st hrt (ev_ok st x)
      have hstep : ∀ β, stepD C D hints id ops β S i o = ((opAt C D S (id * 256 + i + 1) (hints.share.contains (id, i)) o).dec β).map fun x => (fin ops ⟨S.sl, x.2⟩ i o x.1, entOf C ops S (id * 256 + i + 1) i o x.1 x.2) := by
        intro β; unfold stepD; rw [hg]
      have htot : Tot (opT C D (asksOf S.sl o.dst (id * 256 + i + 1)) (ev S) (S.blank o.dst).rt (id * 256 + i + 1) (hints.share.contains (id, i)) o) := by
        intro β
        obtain ⟨x, hx⟩ := ht β
        rw [hstep] at hx
        simp only [Option.map_eq_some_iff] at hx
        obtain ⟨y, hy, _⟩ := hx
        rw [hrt]
        exact ⟨y, hy⟩
      have hres := opAll_ok hty dok s0 hρ (asks_ok S o.dst (id * 256 + i + 1)) htot
      have hout : ∀ val w', Outs (S.blank o.dst) g w a.tmps (opT C D (asksOf S.sl o.dst (id * 256 + i + 1)) (ev S) (S.blank o.dst).rt (id * 256 + i + 1) (hints.share.contains (id, i)) o) val w' → K (a.put o.dst val) w' := by
        rintro val w' ⟨β, v, rt', hd, g', p1, p2, p3, p4⟩
        rw [hrt] at hd
        refine hK β (fin ops ⟨S.sl, rt'⟩ i o v) _ _ w' g' (by rw [hstep]; unfold opAt; rw [hd]; rfl) (fin_ok hty dok st p1 p2) p3 p4 ?_ (.put hnp)
        cases o.dst <;> exact hdf
      unfold Oper.wp
      revert hres
      generalize (execOp a.eval o).run P w = r
      intro hres
      unfold Res at hres
      split at hres
      · exact hout _ _ hres
      · exact hout _ _ hres
      · refine Calls.mono hres ?_
        rintro e w'' he
        cases e with
        | returned val => exact hout _ _ he
        | panicked _ => exact he.elim
        | outgrown => exact he.elim
      · exact hres.elim
end
end Go.V

namespace Go.V
open Go
section
variable (C : Ctx) (D : Den C)
noncomputable def runD (hints : Hints) (id : Nat) (ops : Array Oper) : List Bool → List (Nat × Oper) → St → Option (St × Log)
  | _, [], S => some (S, [])
  | βs, (i, o) :: l, S => (stepD C D hints id ops (βs.headD true) S i o).bind fun x => (runD hints id ops βs.tail l x.1).map fun y => (y.1, x.2 :: y.2)
end
structure Sim (S T : St) : Prop where
  rt : T.rt = S.rt
  len : T.sl.length = S.sl.length
  get : ∀ t, T.get t = S.get t ∨ ∃ b, S.get t = .litB b ∧ T.get t = .val .bool b
theorem Sim.refl (S : St) : Sim S S := ⟨rfl, rfl, fun _ => .inl rfl⟩
theorem Sim.flat {S T : St} (h : Sim S T) (t : Nat) : (T.get t).flat = (S.get t).flat := by
  rcases h.get t with e | ⟨b, e1, e2⟩
  · rw [e]
  · rw [e1, e2]; rfl
theorem Sim.ev {S T : St} (h : Sim S T) : ev T = ev S := by
  funext x
  cases x with
  | tmp t => exact h.flat t
  | _ => rfl
theorem Sim.roots {S T : St} (h : Sim S T) (t : Nat) : (T.get t).roots = (S.get t).roots := by
  rcases h.get t with e | ⟨b, e1, e2⟩
  · rw [e]
  · rw [e1, e2]; rfl
theorem Sim.stamps {S T : St} (h : Sim S T) (t : Nat) : (T.get t).stamps = (S.get t).stamps := by
  rcases h.get t with e | ⟨b, e1, e2⟩
  · rw [e]
  · rw [e1, e2]; rfl
theorem noMen_eq (d : Nat) : ∀ (l l2 : List AV) (i : Nat), l2.length = l.length → (∀ k, (l2.getD k .undef).roots = (l.getD k .undef).roots) → noMen d i l2 = noMen d i l
  | [], [], _, _, _ => rfl
  | [], _ :: _, _, h, _ => by simp at h
  | _ :: _, [], _, h, _ => by simp at h
  | v :: l, u :: l2, i, h, hk => by
    have h0 := hk 0
    simp only [List.getD_cons_zero] at h0
    simp only [noMen]
    rw [h0, noMen_eq d l l2 (i + 1) (by simpa using h) (fun k => by have := hk (k + 1); simpa [List.getD] using this)]
theorem noPl_flat {d : Nat} {a b : AV} (h : a = b ∨ ∃ c, b = .litB c ∧ a = .val .bool c) : a.noPl d = b.noPl d := by
  rcases h with rfl | ⟨c, rfl, rfl⟩ <;> rfl
theorem noPl_eq (d : Nat) : ∀ (l l2 : List AV) (i : Nat), l2.length = l.length → (∀ k, (l2.getD k .undef).noPl d = (l.getD k .undef).noPl d) → noPlAll d i l2 = noPlAll d i l
  | [], [], _, _, _ => rfl
  | [], _ :: _, _, h, _ => by simp at h
  | _ :: _, [], _, h, _ => by simp at h
  | v :: l, u :: l2, i, h, hk => by
    have h0 := hk 0
    simp only [List.getD_cons_zero] at h0
    simp only [noPlAll]
    rw [h0, noPl_eq d l l2 (i + 1) (by simpa using h) (fun k => by have := hk (k + 1); simpa [List.getD] using this)]
theorem allFresh_eq (s : Nat) : ∀ (l l2 : List AV), l2.length = l.length → (∀ k, (l2.getD k .undef).stampsOk s (s + 1) = (l.getD k .undef).stampsOk s (s + 1)) → allFresh s l2 = allFresh s l
  | [], [], _, _ => rfl
  | [], _ :: _, h, _ => by simp at h
  | _ :: _, [], h, _ => by simp at h
  | v :: l, u :: l2, h, hk => by
    have h0 := hk 0
    simp only [List.getD_cons_zero] at h0
    simp only [allFresh]
    rw [h0, allFresh_eq s l l2 (by simpa using h) (fun k => by have := hk (k + 1); simpa [List.getD] using this)]
theorem asks_eq {sl sl2 : List AV} (d : Option Nat) (s : Nat) (hl : sl2.length = sl.length) (hr : ∀ d', d = some d' → ∀ k, k ≠ d' → (sl2.getD k .undef).roots.contains d' = (sl.getD k .undef).roots.contains d')
    (hp : ∀ d', d = some d' → ∀ k, k ≠ d' → (sl2.getD k .undef).noPl d' = (sl.getD k .undef).noPl d') (hs : ∀ k, (sl2.getD k .undef).stampsOk s (s + 1) = (sl.getD k .undef).stampsOk s (s + 1)) : asksOf sl2 d s = asksOf sl d s := by
  have hf := allFresh_eq s sl sl2 hl hs
  cases d with
  | none => simp only [asksOf, hf]
  | some d =>
    have hm : ∀ (l l2 : List AV) (i : Nat), l2.length = l.length → (∀ k, i + k ≠ d → (l2.getD k .undef).roots.contains d = (l.getD k .undef).roots.contains d) → noMen d i l2 = noMen d i l := by
      intro l
      induction l with
      | nil => intro l2 i h _; cases l2 with
        | nil => rfl
        | cons _ _ => simp at h
      | cons v l ih =>
        intro l2 i h hk
        cases l2 with
        | nil => simp at h
        | cons u l2 =>
          simp only [noMen]
          rw [ih l2 (i + 1) (by simpa using h) (fun k hkd => by have := hk (k + 1) (by omega); simpa [List.getD] using this)]
          by_cases e : i = d
          · subst e; simp
          · have := hk 0 (by omega)
            simp only [List.getD_cons_zero] at this
            rw [this]
    have hpl : ∀ (l l2 : List AV) (i : Nat), l2.length = l.length → (∀ k, i + k ≠ d → (l2.getD k .undef).noPl d = (l.getD k .undef).noPl d) → noPlAll d i l2 = noPlAll d i l := by
      intro l
      induction l with
      | nil => intro l2 i h _; cases l2 with
        | nil => rfl
        | cons _ _ => simp at h
      | cons v l ih =>
        intro l2 i h hk
        cases l2 with
        | nil => simp at h
        | cons u l2 =>
          simp only [noPlAll]
          rw [ih l2 (i + 1) (by simpa using h) (fun k hkd => by have := hk (k + 1) (by omega); simpa [List.getD] using this)]
          by_cases e : i = d
          · subst e; simp
          · have := hk 0 (by omega)
            simp only [List.getD_cons_zero] at this
            rw [this]
    simp only [asksOf, hf]
    rw [hm sl sl2 0 hl (fun k h => hr d rfl k (by omega)), hpl sl sl2 0 hl (fun k h => hp d rfl k (by omega))]
theorem Sim.asks {S T : St} (h : Sim S T) (d : Option Nat) (s : Nat) : asksOf T.sl d s = asksOf S.sl d s := by
  refine asks_eq d s h.len (fun d' _ k _ => ?_) (fun d' _ k _ => ?_) (fun k => ?_)
  · have := h.roots k; simp only [St.get] at this; rw [this]
  · rcases h.get k with e | ⟨b, e1, e2⟩
    · simp only [St.get] at e; rw [e]
    · simp only [St.get] at e1 e2; rw [e1, e2]; rfl
  · rcases h.get k with e | ⟨b, e1, e2⟩
    · simp only [St.get] at e; rw [e]
    · simp only [St.get] at e1 e2; rw [e1, e2]; rfl
theorem Sim.set {S T : St} (h : Sim S T) (t : Nat) (v : AV) : Sim (S.set t v) (T.set t v) where
  rt := h.rt
  len := by simp [St.set, h.len]
  get := by
    intro u
    rw [St.get_set, St.get_set, h.len]
    by_cases e : u = t ∧ t < S.sl.length
    · rw [if_pos e, if_pos e]; exact .inl rfl
    · rw [if_neg e, if_neg e]; exact h.get u
theorem Sim.forget {S T : St} (h : Sim S T) : ∀ ts : List Nat, Sim (S.forget ts) (T.forget ts) := by
  intro ts
  induction ts generalizing S T with
  | nil => exact h
  | cons t ts ih => exact ih (h.set t .undef)
theorem Sim.withRt {S T : St} (h : Sim S T) (rt : Rts) : Sim ⟨S.sl, rt⟩ ⟨T.sl, rt⟩ := ⟨rfl, h.len, h.get⟩
theorem Sim.fin {S T : St} (h : Sim S T) (ops : Array Oper) (i : Nat) (o : Oper) (v : AV) : Sim (fin ops S i o v) (fin ops T i o v) := by
  unfold V.fin setDst
  cases o.dst with
  | none => exact h.forget _
  | some d => exact (h.forget _).set d v
theorem Sim.rootsAt {S T : St} (h : Sim S T) : ∀ ts, rootsAt T ts = rootsAt S ts
  | [] => rfl
  | t :: ts => by simp only [V.rootsAt]; rw [h.roots, Sim.rootsAt h ts]
theorem Sim.stampsAt {S T : St} (h : Sim S T) : ∀ ts, stampsAt T ts = stampsAt S ts
  | [] => rfl
  | t :: ts => by simp only [V.stampsAt]; rw [h.stamps, Sim.stampsAt h ts]
section
variable {C : Ctx} {D : Den C}
theorem Sim.opAt {S T : St} (h : Sim S T) (site : Nat) (hint : Bool) (o : Oper) : opAt C D T site hint o = opAt C D S site hint o := by
  unfold V.opAt; rw [h.asks, h.ev, h.rt]
theorem Sim.ent {S T : St} (h : Sim S T) (ops : Array Oper) (site i : Nat) (o : Oper) (v : AV) (rt' : Rts) : entOf C ops T site i o v rt' = entOf C ops S site i o v rt' := by
  unfold entOf opVals; rw [h.ev, h.rootsAt, h.stampsAt, h.rt]
theorem Sim.skip {S T : St} (h : Sim S T) (ops : Array Oper) (site i : Nat) (o : Oper) : entSkip ops T site i o = entSkip ops S site i o := by
  unfold entSkip; rw [h.rootsAt, h.stampsAt]
theorem step_go {hints : Hints} {id : Nat} {ops : Array Oper} {S T : St} (h : Sim S T) {i : Nat} {o : Oper} {β : Bool} (hg : guardB ops T o = some true) {x : AV × Rts}
    (hd : (opAt C D S (id * 256 + i + 1) (hints.share.contains (id, i)) o).dec β = some x) :
    stepD C D hints id ops β T i o = some (fin ops ⟨T.sl, x.2⟩ i o x.1, entOf C ops S (id * 256 + i + 1) i o x.1 x.2) ∧ Sim (fin ops ⟨S.sl, x.2⟩ i o x.1) (fin ops ⟨T.sl, x.2⟩ i o x.1) := by
  refine ⟨?_, (h.withRt x.2).fin ops i o x.1⟩
  unfold stepD
  rw [hg, h.opAt, hd, ← h.ent]
  rfl
theorem step_skip {hints : Hints} {id : Nat} {ops : Array Oper} {S T : St} (h : Sim S T) {i : Nat} {o : Oper} {β : Bool} (hg : guardB ops T o = some false) :
    stepD C D hints id ops β T i o = some (fin ops T i o .skip, entSkip ops S (id * 256 + i + 1) i o) ∧ Sim (fin ops S i o .skip) (fin ops T i o .skip) := by
  refine ⟨?_, h.fin ops i o .skip⟩
  unfold stepD
  rw [hg, ← h.skip]
end
section
variable {P : Program} {C : Ctx} {D : Den C} (hty : AllTy P C) (dok : DOk P C D)
include hty dok
theorem run_ok {np : List Nat} {Q : Exit → Act → World → Prop} {hints : Hints} {id : Nat} {ops : Array Oper} (hj : ∀ (i : Nat) o j c, ops[i]? = some o → o.guard = some (j, c) → ∃ oj t, ops[j]? = some oj ∧ oj.dst = some t) :
    ∀ (l : List (Nat × Oper)) (S : St) (g : Ghost) (a : Act) (w : World), (∀ x ∈ l, ops[x.1]? = some x.2) → (∀ x ∈ l, ∀ d, x.2.dst = some d → d ∉ np) → StRel w.heap S g a.tmps Nil → a.defers = [] → (∀ βs, ∃ x, runD C D hints id ops βs l S = some x) →
      (∀ βs S' lg a' w' g', runD C D hints id ops βs l S = some (S', lg) → StRel w'.heap S' g' a'.tmps Nil → g'.Same g → WFr g.L w w' → a'.defers = [] → Fixed np a a' → Q .normal a' w') → wpOps P ops Q (l.map (·.1)) a w
  | [], S, g, a, w, hl, hnp, st, hdf, ht, hQ => by
    simp only [List.map_nil, wpOps]
    exact hQ [] S [] a w g rfl st (.refl g) (.refl _ _) hdf (.refl _ _)
  | (i, o) :: l, S, g, a, w, hl, hnp, st, hdf, ht, hQ => by
    simp only [List.map_cons]
    rw [wpOps_cons]
    have hi := hl (i, o) List.mem_cons_self
    refine step_ok hty dok st (hints := hints) (id := id) hi (fun j c => hj i o j c hi) hdf (hnp (i, o) List.mem_cons_self) (fun β => ?_) ?_
    · obtain ⟨x, hx⟩ := ht [β]
      simp only [runD, List.headD_cons, Option.bind_eq_some_iff] at hx
      obtain ⟨y, hy, _⟩ := hx
      exact ⟨y, hy⟩
    · intro β S' e a' w' g' hs st' hsm hfr hdf' hfx
      refine run_ok (hints := hints) (id := id) hj l S' g' a' w' (fun x hx => hl x (List.mem_cons_of_mem _ hx)) (fun x hx => hnp x (List.mem_cons_of_mem _ hx)) st' hdf' (fun βs => ?_) ?_
      · obtain ⟨x, hx⟩ := ht (β :: βs)
        simp only [runD, List.headD_cons, List.tail_cons, Option.bind_eq_some_iff] at hx
        obtain ⟨y, hy, hx⟩ := hx
        rw [hs] at hy
        simp only [Option.some.injEq] at hy
        subst hy
        simp only [Option.map_eq_some_iff] at hx
        obtain ⟨z, hz, _⟩ := hx
        exact ⟨z, hz⟩
      · intro βs S'' lg a'' w'' g'' hr st'' hsm' hfr' hdf'' hfx'
        refine hQ (β :: βs) S'' (e :: lg) a'' w'' g'' ?_ st'' (hsm.trans hsm') (hfr.trans (by rw [hsm.2.1] at hfr'; exact hfr')) hdf'' (hfx.trans hfx')
        simp only [runD, List.headD_cons, List.tail_cons, hs, Option.bind_some, hr, Option.map_some]
end
end Go.V

namespace Go.V
open Go
section
variable {C : Ctx} {D : Den C}
theorem of_rt {α : Type} {x : Option α} {f : α → AV} {S : Rts} {β : Bool} {v : AV} {rt' : Rts} (h : (Tr.of (x.map fun v => (f v, S))).dec β = some (v, rt')) : rt' = S := by
  cases x with
  | none => simp [Tr.of, Tr.dec] at h
  | some y => simp only [Option.map_some, Tr.of, Tr.dec, Option.some.injEq, Prod.mk.injEq] at h; exact h.2.symm
theorem total_rt {A : Asks} {ρ : Operand → AV} {S : Rts} {site : Nat} {hint : Bool} {o : Oper} (hT : totalOp o = true) {β : Bool} {v : AV} {rt' : Rts} (h : (opT C D A ρ S site hint o).dec β = some (v, rt')) : rt' = S := by
  cases ho : o.op with
  | move x => simp only [opT, ho, Tr.dec, Option.some.injEq, Prod.mk.injEq] at h; exact h.2.symm
  | pick c a b =>
    simp only [opT, ho] at h
    split at h
    · rename_i c' _; cases c' <;> (simp only [Tr.dec, Option.some.injEq, Prod.mk.injEq] at h; exact h.2.symm)
    · simp [Tr.dec] at h
  | unOp op t x =>
    simp only [opT, ho] at h
    split at h
    · simp only [Tr.dec, Option.some.injEq, Prod.mk.injEq] at h; exact h.2.symm
    · simp only [Tr.dec, Option.some.injEq, Prod.mk.injEq] at h; exact h.2.symm
    · simp [Tr.dec] at h
  | fieldAddr t x f => simp only [opT, ho] at h; exact of_rt (f := fun v => v) h
  | field t x f =>
    simp only [opT, ho] at h
    split at h
    · split at h
      · split at h
        · simp only [Tr.dec, Option.some.injEq, Prod.mk.injEq] at h; exact h.2.symm
        · simp [Tr.dec] at h
      · simp [Tr.dec] at h
    · simp [Tr.dec] at h
  | load t x =>
    simp only [opT, ho] at h
    split at h
    · exact of_rt (f := fun v => v) h
    · simp [Tr.dec] at h
  | extract x i => simp only [opT, ho] at h; exact of_rt (f := fun v => v) h
  | binOp op t x y t2 =>
    simp only [opT, ho] at h
    split at h
    · split at h
      · simp only [Tr.dec, Option.some.injEq, Prod.mk.injEq] at h; exact h.2.symm
      · simp only [Tr.dec, Option.some.injEq, Prod.mk.injEq] at h; exact h.2.symm
      · simp [Tr.dec] at h
    · exact (wrapS_dec (T := binT (C.ty t) op (ρ x) (ρ y)) (S := S) (β := β) (v := v) (rt := rt') (by unfold wrapS; exact h)).2
  | call c =>
    cases hc : c.callee with
    | builtin b =>
      cases b with
      | len =>
        simp only [opT, ho, hc] at h
        split at h <;> first
          | (simp only [Tr.dec, Option.some.injEq, Prod.mk.injEq] at h; exact h.2.symm)
          | exact of_rt (f := fun n => AV.val (Ty.int IntKind.i64) n) h
          | (exfalso; contradiction)
          | (exfalso; revert h; simp only [Tr.dec]; intro h; contradiction)
      | _ => simp [totalOp, ho, hc] at hT
    | _ => simp [totalOp, ho, hc] at hT
  | _ => simp [totalOp, ho] at hT
theorem total_hint {A : Asks} {ρ : Operand → AV} {S : Rts} {site : Nat} {h1 h2 : Bool} {o : Oper} (hT : totalOp o = true) : opT C D A ρ S site h1 o = opT C D A ρ S site h2 o := by
  cases ho : o.op with
  | call c =>
    cases hc : c.callee with
    | builtin b =>
      cases b with
      | len =>
        simp only [opT, ho, hc]
        generalize List.map ρ c.args.toList = l1
        generalize List.map C.ty c.argTypes.toList = l2
        rcases l1 with _ | ⟨x, _ | ⟨y, l⟩⟩
        · rfl
        · rcases l2 with _ | ⟨t, l2⟩
          · cases x with
            | val ty s => cases ty <;> rfl
            | _ => rfl
          · cases x with
            | val ty s => cases ty <;> cases t <;> rfl
            | _ => cases t <;> rfl
        · rcases l with _ | ⟨z, l⟩ <;> rcases l2 with _ | ⟨t, _ | ⟨t', l2⟩⟩ <;> first
            | rfl
            | (cases t <;> first | rfl | (cases t' <;> rfl))
            | (cases x with
               | val ty s => cases ty <;> first | rfl | (cases t <;> first | rfl | (cases t' <;> rfl))
               | _ => first | rfl | (cases t <;> first | rfl | (cases t' <;> rfl)))
      | _ => simp [totalOp, ho, hc] at hT
    | _ => simp [totalOp, ho, hc] at hT
  | _ => first | (simp [totalOp, ho] at hT; done) | simp only [opT, ho]
theorem forget_get : ∀ (ts : List Nat) (S : St) (u : Nat), (S.forget ts).get u = if u ∈ ts then .undef else S.get u
  | [], S, u => by simp [St.forget]
  | t :: ts, S, u => by
    simp only [St.forget, forget_get ts, List.mem_cons]
    have := blank_get S t u
    simp only [St.blank] at this
    rw [this]
    by_cases h1 : u ∈ ts
    · simp [h1]
    · by_cases h2 : u = t <;> simp [h1, h2]
theorem forget_len (ts : List Nat) (S : St) : (S.forget ts).sl.length = S.sl.length := by
  induction ts generalizing S with
  | nil => rfl
  | cons t ts ih => simp only [St.forget]; rw [ih]; simp [St.set]
theorem forget_rt (ts : List Nat) (S : St) : (S.forget ts).rt = S.rt := by rw [forget_eq]
theorem fin_get (ops : Array Oper) (S : St) (i : Nat) (o : Oper) (v : AV) (u : Nat) :
    (fin ops S i o v).get u = if o.dst = some u ∧ u < S.sl.length then v else if u ∈ forgetOf ops i o then .undef else S.get u := by
  unfold fin setDst
  cases hd : o.dst with
  | none => simp [forget_get]
  | some d =>
    rw [St.get_set, forget_get, forget_len]
    by_cases e : u = d
    · subst e; simp
    · have : ¬ d = u := fun h => e h.symm
      simp [e, this]
theorem fin_rt (ops : Array Oper) (S : St) (i : Nat) (o : Oper) (v : AV) : (fin ops S i o v).rt = S.rt := by
  unfold fin setDst
  cases o.dst with
  | none => exact forget_rt _ _
  | some d => exact forget_rt _ _
theorem fin_len (ops : Array Oper) (S : St) (i : Nat) (o : Oper) (v : AV) : (fin ops S i o v).sl.length = S.sl.length := by
  unfold fin setDst
  cases o.dst with
  | none => exact forget_len _ _
  | some d => simp only [St.set, List.length_set]; exact forget_len _ _
theorem stepD_frame {hints : Hints} {id : Nat} {ops : Array Oper} {β : Bool} {S S' : St} {i : Nat} {o : Oper} {e : Ent} (h : stepD C D hints id ops β S i o = some (S', e)) {u : Nat} (hu : u ∉ overOf ops i o) :
    S'.get u = S.get u ∧ S'.sl.length = S.sl.length ∧ (totalOp o = true → S'.rt = S.rt) := by
  have hn : ¬ (o.dst = some u) := fun h => hu (by simp [overOf, h])
  have hn2 : u ∉ forgetOf ops i o := fun h => hu (by simp [overOf, h])
  unfold stepD at h
  split at h
  · simp only [Option.map_eq_some_iff, Prod.mk.injEq] at h
    obtain ⟨x, hx, rfl, _⟩ := h
    refine ⟨?_, ?_, fun ht => ?_⟩
    · rw [fin_get, if_neg (fun h => hn h.1), if_neg hn2]; rfl
    · rw [fin_len]
    · rw [fin_rt]; exact total_rt ht hx
  · simp only [Option.some.injEq, Prod.mk.injEq] at h
    obtain ⟨rfl, _⟩ := h
    refine ⟨?_, ?_, fun ht => ?_⟩
    · rw [fin_get, if_neg (fun h => hn h.1), if_neg hn2]
    · rw [fin_len]
    · rw [fin_rt]
  · simp at h
theorem runD_frame {hints : Hints} {id : Nat} {ops : Array Oper} {Dd : List Nat} : ∀ (l : List (Nat × Oper)) (βs : List Bool) (S S' : St) (lg : Log), runD C D hints id ops βs l S = some (S', lg) →
    (∀ x ∈ l, totalOp x.2 = true ∧ ∀ u ∈ overOf ops x.1 x.2, u ∈ Dd) → (∀ u, u ∉ Dd → S'.get u = S.get u) ∧ S'.rt = S.rt ∧ S'.sl.length = S.sl.length
  | [], βs, S, S', lg, h, _ => by
    simp only [runD, Option.some.injEq, Prod.mk.injEq] at h
    obtain ⟨rfl, _⟩ := h
    exact ⟨fun _ _ => rfl, rfl, rfl⟩
  | (i, o) :: l, βs, S, S', lg, h, hl => by
    simp only [runD, Option.bind_eq_some_iff, Option.map_eq_some_iff, Prod.mk.injEq] at h
    obtain ⟨⟨S1, e⟩, hs, ⟨S2, lg2⟩, hr, rfl, _⟩ := h
    obtain ⟨ht, ho⟩ := hl (i, o) List.mem_cons_self
    obtain ⟨k1, k2, k3⟩ := runD_frame l βs.tail S1 S2 lg2 hr (fun x hx => hl x (List.mem_cons_of_mem _ hx))
    have hex : ∃ u, u ∉ overOf ops i o := by
      refine ⟨(overOf ops i o).foldr max 0 + 1, fun h => ?_⟩
      have : ∀ (l : List Nat) (u : Nat), u ∈ l → u ≤ l.foldr max 0 := by
        intro l
        induction l with
        | nil => intro u h; simp at h
        | cons a l ih =>
          intro u h
          simp only [List.foldr_cons]
          rcases List.mem_cons.1 h with rfl | h
          · exact Nat.le_max_left _ _
          · exact Nat.le_trans (ih u h) (Nat.le_max_right _ _)
      have := this _ _ h
      omega
    obtain ⟨u0, hu0⟩ := hex
    obtain ⟨_, f2, f3⟩ := stepD_frame hs hu0
    exact ⟨fun u hu => (k1 u hu).trans (stepD_frame hs (fun h => hu (ho u h))).1, k2.trans (f3 ht), k3.trans f2⟩
theorem runD_append {hints : Hints} {id : Nat} {ops : Array Oper} : ∀ (l1 l2 : List (Nat × Oper)) (βs : List Bool) (S : St),
    runD C D hints id ops βs (l1 ++ l2) S = (runD C D hints id ops βs l1 S).bind fun x => (runD C D hints id ops (βs.drop l1.length) l2 x.1).map fun y => (y.1, x.2 ++ y.2)
  | [], l2, βs, S => by simp [runD]
  | (i, o) :: l1, l2, βs, S => by
    simp only [List.cons_append, runD]
    cases hs : stepD C D hints id ops (βs.headD true) S i o with
    | none => simp
    | some x =>
      simp only [Option.bind_some]
      rw [runD_append l1 l2 βs.tail x.1]
      cases hr : runD C D hints id ops βs.tail l1 x.1 with
      | none => simp
      | some y =>
        simp only [Option.bind_some, Option.map_some, List.length_cons]
        have : βs.tail.drop l1.length = βs.drop (l1.length + 1) := by cases βs <;> simp
        rw [this]
        cases runD C D hints id ops (βs.drop (l1.length + 1)) l2 y.1 <;> simp
theorem ev_flat {S : St} {x : Operand} {b : Bool} (h : V.asBool (ev S x) = some b) : ev S x = .val .bool b := by
  cases x with
  | tmp t =>
    simp only [ev] at h ⊢
    cases hS : S.get t with
    | val t y => rw [hS] at h; cases t <;> simp [AV.flat, V.asBool] at h; subst h; rfl
    | litB c => rw [hS] at h; simp [AV.flat, V.asBool] at h; subst h; rfl
    | _ => rw [hS] at h; simp [AV.flat, V.asBool] at h
  | const v =>
    simp only [ev] at h ⊢
    unfold constAV at h ⊢
    split at h <;> simp [V.asBool] at h
    subst h; rfl
  | _ => simp [ev, V.asBool] at h
def SegOk (C : Ctx) (D : Den C) (hints : Hints) (id : Nat) (ops : Array Oper) (rec_ : List (Nat × Oper) → St → Log → Option (St × Log)) : Prop :=
  ∀ l S lg S1 lg1, rec_ l S lg = some (S1, lg1) → (∀ x ∈ l, totalOp x.2 = true) → ∀ T, Sim S T → ∀ βs, ∃ T1 lgT, runD C D hints id ops βs l T = some (T1, lgT) ∧ Sim S1 T1 ∧ (∀ e ∈ lgT, e ∈ lg1) ∧ (∀ e ∈ lg, e ∈ lg1)
theorem split_ok {t : Nat} : ∀ (l : List (Nat × Oper)) {seg : List (Nat × Oper)} {x : Nat × Oper} {rest : List (Nat × Oper)}, splitPick t l = some (seg, x, rest) → l = seg ++ x :: rest ∧ isPick t x.2 = true
  | [], _, _, _, h => by simp [splitPick] at h
  | y :: l, seg, x, rest, h => by
    simp only [splitPick] at h
    split at h
    · rename_i hp
      simp only [Option.some.injEq, Prod.mk.injEq] at h
      obtain ⟨rfl, rfl, rfl⟩ := h
      exact ⟨rfl, hp⟩
    · split at h
      · rename_i z hz
        obtain ⟨z1, z2, z3⟩ := z
        simp only [Option.some.injEq, Prod.mk.injEq] at h
        obtain ⟨rfl, rfl, rfl⟩ := h
        obtain ⟨e, hp⟩ := split_ok l hz
        exact ⟨by rw [e]; rfl, hp⟩
      · simp at h
theorem join_ok {hints : Hints} {id : Nat} {ops : Array Oper} {rec_ : List (Nat × Oper) → St → Log → Option (St × Log)} (hrec : SegOk C D hints id ops rec_) {t : Nat} {c : Bool} {l rest : List (Nat × Oper)} {S S' : St} {lg lg' : Log}
    (h : joinAt C ops id rec_ t c l S lg = some (S', lg', rest)) (hSt : S.get t = .val .bool c) {T : St} (hs : Sim S T) (βs : List Bool) :
    ∃ seg i o T' lgT, l = seg ++ (i, o) :: rest ∧ runD C D hints id ops βs (seg ++ [(i, o)]) T = some (T', lgT) ∧ Sim S' T' ∧ (∀ e ∈ lgT, e ∈ lg') ∧ (∀ e ∈ lg, e ∈ lg') ∧ totalOp o = true := by
  unfold joinAt at h
  split at h
  · rename_i seg i o rest' hsp
    obtain ⟨hl, hpick⟩ := split_ok l hsp
    simp only at h
    split at h
    · rename_i hc
      simp only [Bool.and_eq_true, List.all_eq_true, Bool.not_eq_true'] at hc
      obtain ⟨⟨hc1, hc2⟩, hc3⟩ := hc
      split at h
      · rename_i cc a b S1 l1 S2 l2 hop h1 h2
        split at h
        · rename_i x y hx hy
          simp only [Option.some.injEq, Prod.mk.injEq] at h
          obtain ⟨rfl, rfl, rfl⟩ := h
          have hTt : T.get t = .val .bool c := by
            rcases hs.get t with e | ⟨b, e1, _⟩
            · rw [e]; exact hSt
            · rw [hSt] at e1; simp at e1
          have htl : t < S.sl.length := by
            rcases Nat.lt_or_ge t S.sl.length with h | h
            · exact h
            · simp only [St.get, List.getD] at hSt; rw [List.getElem?_eq_none h] at hSt; simp at hSt
          have hsim : Sim (S.set t (.litB c)) T := by
            refine ⟨hs.rt, by simp [St.set, hs.len], fun u => ?_⟩
            rw [St.get_set]
            by_cases e : u = t
            · subst e; rw [if_pos ⟨rfl, htl⟩]; exact .inr ⟨c, rfl, hTt⟩
            · rw [if_neg (fun h => e h.1)]; exact hs.get u
          have hcc : cc = .tmp t := by
            unfold isPick at hpick
            rw [hop] at hpick
            split at hpick
            · rename_i c' _ _ he
              simp only [Op.pick.injEq] at he
              rw [he.1]
              rw [Nat.eq_of_beq_eq_true hpick]
            · simp at hpick
          have hseg : ∀ x ∈ seg, totalOp x.2 = true ∧ ∀ u ∈ overOf ops x.1 x.2, u ∈ forgetOf ops i o := by
            intro z hz
            have := hc1 z hz
            exact ⟨this.1, fun u hu => by have := this.2 u hu; simpa using this⟩
          -- the way that is gone
          have key : ∀ (Sc : St) (lc : Log), rec_ seg (S.set t (.litB c)) [] = some (Sc, lc) → ∀ z, V.asBool (ev Sc (if c then a else b)) = some z →
              ∃ T' lgT, runD C D hints id ops βs (seg ++ [(i, o)]) T = some (T', lgT) ∧ Sim (fin ops S i o (.val .bool z)) T' ∧ ∀ e ∈ lgT, e ∈ lc ∨ e = entOf C ops Sc (id * 256 + i + 1) i o (.val .bool z) Sc.rt := by
            intro Sc lc hr z hz
            obtain ⟨T1, lgT, k1, k2, k3, _⟩ := hrec seg _ _ Sc lc hr (fun x hx => (hseg x hx).1) T hsim βs
            obtain ⟨f1, f2, f3⟩ := runD_frame seg βs T T1 lgT k1 hseg
            have htD : t ∉ forgetOf ops i o := by simpa using hc3
            have hT1t : T1.get t = .val .bool c := by rw [f1 t htD]; exact hTt
            have hg : guardB ops T1 o = some true := by
              unfold openG at hc2
              unfold guardB
              split at hc2
              · rename_i hgd; rw [hgd]
              · rename_i j b' hgd
                simp only [Bool.and_eq_true, Bool.not_eq_true'] at hc2
                rw [hgd]
                simp only
                have hjD : dstOf ops j ∉ forgetOf ops i o := by simpa using hc2.1
                rw [f1 _ hjD]
                have h5 := hc2.2
                split at h5
                · rename_i c' hS
                  rcases hs.get (dstOf ops j) with e | ⟨b2, e1, e2⟩
                  · rw [e, hS]; simp only [Option.some.injEq]; exact h5
                  · rw [e2]; rw [hS] at e1; simp only [AV.litB.injEq] at e1; subst e1; simp only [Option.some.injEq]; exact h5
                · simp at h5
            have hevz : ev T1 (if c then a else b) = .val .bool z := by rw [k2.ev]; exact ev_flat hz
            have hdec : (opAt C D T1 (id * 256 + i + 1) (hints.share.contains (id, i)) o).dec ((βs.drop seg.length).headD true) = some (.val .bool z, T1.rt) := by
              unfold opAt
              simp only [opT, hop, hcc, ev, hT1t, AV.flat, V.asBool]
              cases c <;> simp only [Tr.dec, Option.some.injEq, Prod.mk.injEq, and_true] <;> exact hevz
            have hstep : stepD C D hints id ops ((βs.drop seg.length).headD true) T1 i o = some (fin ops T1 i o (.val .bool z), entOf C ops Sc (id * 256 + i + 1) i o (.val .bool z) Sc.rt) := by
              unfold stepD
              rw [hg, hdec, ← k2.ent, ← k2.rt]
              rfl
            refine ⟨fin ops T1 i o (.val .bool z), lgT ++ [entOf C ops Sc (id * 256 + i + 1) i o (.val .bool z) Sc.rt], ?_, ?_, ?_⟩
            · rw [runD_append, k1]
              simp only [Option.bind_some, runD, hstep, Option.map_some]
            · refine ⟨?_, ?_, fun u => ?_⟩
              · rw [fin_rt, fin_rt, f2, hs.rt]
              · rw [fin_len, fin_len, f3, hs.len]
              · rw [fin_get, fin_get, f3, hs.len]
                by_cases h1 : o.dst = some u ∧ u < S.sl.length
                · rw [if_pos h1, if_pos h1]; exact .inl rfl
                · rw [if_neg h1, if_neg h1]
                  by_cases h2 : u ∈ forgetOf ops i o
                  · rw [if_pos h2, if_pos h2]; exact .inl rfl
                  · rw [if_neg h2, if_neg h2, f1 u h2]; exact hs.get u
            · intro e he
              rcases List.mem_append.1 he with he | he
              · exact .inl (k3 e he)
              · exact .inr (by simpa using he)
          have htot : totalOp o = true := by unfold totalOp; rw [hop]
          cases c with
          | true =>
            obtain ⟨T', lgT, k1, k2, k3⟩ := key S1 l1 h1 x (by simpa using hx)
            refine ⟨seg, i, o, T', lgT, hl, k1, k2, fun e he => ?_, fun e he => ?_, htot⟩
            · rcases k3 e he with h | rfl
              · simp [h]
              · simp
            · simp [he]
          | false =>
            obtain ⟨T', lgT, k1, k2, k3⟩ := key S2 l2 h2 y (by simpa using hy)
            refine ⟨seg, i, o, T', lgT, hl, k1, k2, fun e he => ?_, fun e he => ?_, htot⟩
            · rcases k3 e he with h | rfl
              · simp [h]
              · simp
            · simp [he]
        · simp at h
      · simp at h
    · simp at h
  · simp at h
end
end Go.V

namespace Go.V
open Go
section
variable {C : Ctx} {D : Den C}
theorem runD_join {hints : Hints} {id : Nat} {ops : Array Oper} {seg rest : List (Nat × Oper)} {x : Nat × Oper} {T T' : St} {lgT : Log} {βs : List Bool}
    (h : runD C D hints id ops βs (seg ++ [x]) T = some (T', lgT)) :
    runD C D hints id ops βs (seg ++ x :: rest) T = (runD C D hints id ops (βs.drop (seg.length + 1)) rest T').map fun y => (y.1, lgT ++ y.2) := by
  have e : seg ++ x :: rest = (seg ++ [x]) ++ rest := by simp
  rw [e, runD_append, h]
  simp only [Option.bind_some, List.length_append, List.length_cons, List.length_nil]
theorem guard_sim {ops : Array Oper} {S T : St} (h : Sim S T) {o : Oper} {j : Nat} {b c : Bool} (hg : o.guard = some (j, b)) (hS : S.get (dstOf ops j) = .litB c ∨ S.get (dstOf ops j) = .val .bool c) :
    guardB ops T o = some (c == b) := by
  unfold guardB
  rw [hg]
  simp only
  rcases hS with hS | hS
  · rcases h.get (dstOf ops j) with e | ⟨c', e1, e2⟩
    · rw [e, hS]
    · rw [hS] at e1; simp only [AV.litB.injEq] at e1; subst e1; rw [e2]
  · rcases h.get (dstOf ops j) with e | ⟨c', e1, e2⟩
    · rw [e, hS]
    · rw [hS] at e1; simp at e1
theorem guard_skip {ops : Array Oper} {S T : St} (h : Sim S T) {o : Oper} {j : Nat} {b : Bool} (hg : o.guard = some (j, b)) (hS : S.get (dstOf ops j) = .skip) : guardB ops T o = some false := by
  unfold guardB
  rw [hg]
  simp only
  rcases h.get (dstOf ops j) with e | ⟨c', e1, e2⟩
  · rw [e, hS]
  · rw [hS] at e1; simp at e1
theorem guard_nil {ops : Array Oper} {T : St} {o : Oper} (hg : o.guard = none) : guardB ops T o = some true := by
  unfold guardB; rw [hg]
theorem segR_ok {hints : Hints} {id : Nat} {ops : Array Oper} : ∀ n, SegOk C D hints id ops (segR C D id ops n)
  | 0 => by intro l S lg S1 lg1 h; simp [segR] at h
  | n + 1 => by
    intro l S lg S1 lg1 h hl T hs βs
    cases l with
    | nil =>
      simp only [segR, Option.some.injEq, Prod.mk.injEq] at h
      obtain ⟨rfl, rfl⟩ := h
      exact ⟨T, [], rfl, hs, by simp, fun e he => he⟩
    | cons x rest =>
      obtain ⟨i, o⟩ := x
      have htot := hl (i, o) List.mem_cons_self
      have hrest : ∀ x ∈ rest, totalOp x.2 = true := fun x hx => hl x (List.mem_cons_of_mem _ hx)
      have hgo : guardB ops T o = some true → (match opAt C D S (id * 256 + i + 1) false o with
          | .ret (v, rt') => segR C D id ops n rest (fin ops ⟨S.sl, rt'⟩ i o v) (entOf C ops S (id * 256 + i + 1) i o v rt' :: lg)
          | _ => none) = some (S1, lg1) → ∃ T1 lgT, runD C D hints id ops βs ((i, o) :: rest) T = some (T1, lgT) ∧ Sim S1 T1 ∧ (∀ e ∈ lgT, e ∈ lg1) ∧ (∀ e ∈ lg, e ∈ lg1) := by
        intro hg h
        split at h
        · rename_i v rt' hop
          have hop' : (opAt C D S (id * 256 + i + 1) (hints.share.contains (id, i)) o).dec (βs.headD true) = some (v, rt') := by
            unfold opAt at hop ⊢
            rw [total_hint htot (h2 := false), hop]
            rfl
          obtain ⟨k1, k2⟩ := step_go (hints := hints) (id := id) hs hg hop'
          obtain ⟨T1, lgT, q1, q2, q3, q4⟩ := segR_ok (hints := hints) n rest _ _ S1 lg1 h hrest _ k2 βs.tail
          refine ⟨T1, entOf C ops S (id * 256 + i + 1) i o v rt' :: lgT, ?_, q2, ?_, fun e he => q4 e (List.mem_cons_of_mem _ he)⟩
          · simp only [runD, k1, Option.bind_some, q1, Option.map_some]
          · intro e he
            rcases List.mem_cons.1 he with rfl | he
            · exact q4 _ List.mem_cons_self
            · exact q3 e he
        · simp at h
      have hskip : guardB ops T o = some false → segR C D id ops n rest (fin ops S i o .skip) (entSkip ops S (id * 256 + i + 1) i o :: lg) = some (S1, lg1) →
          ∃ T1 lgT, runD C D hints id ops βs ((i, o) :: rest) T = some (T1, lgT) ∧ Sim S1 T1 ∧ (∀ e ∈ lgT, e ∈ lg1) ∧ (∀ e ∈ lg, e ∈ lg1) := by
        intro hg h
        obtain ⟨k1, k2⟩ := step_skip (C := C) (D := D) (hints := hints) (id := id) (β := βs.headD true) hs hg
        obtain ⟨T1, lgT, q1, q2, q3, q4⟩ := segR_ok (hints := hints) n rest _ _ S1 lg1 h hrest _ k2 βs.tail
        refine ⟨T1, entSkip ops S (id * 256 + i + 1) i o :: lgT, ?_, q2, ?_, fun e he => q4 e (List.mem_cons_of_mem _ he)⟩
        · simp only [runD, k1, Option.bind_some, q1, Option.map_some]
        · intro e he
          rcases List.mem_cons.1 he with rfl | he
          · exact q4 _ List.mem_cons_self
          · exact q3 e he
      simp only [segR] at h
      split at h
      · rename_i hgd
        exact hgo (guard_nil hgd) h
      · rename_i j b hgd
        split at h
        · rename_i hS
          exact hskip (guard_skip hs hgd hS) h
        · rename_i c hS
          have hg := guard_sim hs hgd (.inl hS)
          split at h
          · rename_i hcb
            subst hcb
            exact hgo (by simpa using hg) h
          · rename_i hcb
            exact hskip (by rw [hg]; simpa using hcb) h
        · rename_i c hS
          split at h
          · rename_i S2 lg2 rest2 hj
            obtain ⟨seg, i2, o2, T', lgT, e1, k1, k2, k3, k4, k5⟩ := join_ok (segR_ok (hints := hints) n) hj hS hs βs
            have hrest2 : ∀ x ∈ rest2, totalOp x.2 = true := fun x hx => hl x (by rw [e1]; simp [hx])
            obtain ⟨T1, lgT1, q1, q2, q3, q4⟩ := segR_ok (hints := hints) n rest2 _ _ S1 lg1 h hrest2 _ k2 (βs.drop (seg.length + 1))
            refine ⟨T1, lgT ++ lgT1, ?_, q2, ?_, fun e he => q4 e (k4 e he)⟩
            · rw [e1, runD_join k1, q1]; rfl
            · intro e he
              rcases List.mem_append.1 he with he | he
              · exact q4 e (k3 e he)
              · exact q3 e he
          · simp at h
        · simp at h
theorem region_ok {R : Type} {r : R} {hints : Hints} {id : Nat} {ops : Array Oper} {k : Log → St → Option R} : ∀ (n : Nat) (l : List (Nat × Oper)) (S : St) (lg : Log), regionK C D hints id ops n l S lg k = some r → ∀ T, Sim S T → ∀ βs,
    ∃ T1 lgT S1 lg1, runD C D hints id ops βs l T = some (T1, lgT) ∧ k lg1 S1 = some r ∧ Sim S1 T1 ∧ (∀ e ∈ lgT, e ∈ lg1) ∧ (∀ e ∈ lg, e ∈ lg1)
  | 0, l, S, lg, h => by simp [regionK] at h
  | n + 1, [], S, lg, h => by
    intro T hs βs
    simp only [regionK] at h
    exact ⟨T, [], S, lg, rfl, h, hs, by simp, fun e he => he⟩
  | n + 1, (i, o) :: rest, S, lg, h => by
    intro T hs βs
    have hgo : ∀ S, Sim S T → guardB ops T o = some true → ((opAt C D S (id * 256 + i + 1) (hints.share.contains (id, i)) o).run fun x => regionK C D hints id ops n rest (fin ops ⟨S.sl, x.2⟩ i o x.1) (entOf C ops S (id * 256 + i + 1) i o x.1 x.2 :: lg) k) = some r →
        ∃ T1 lgT S1 lg1, runD C D hints id ops βs ((i, o) :: rest) T = some (T1, lgT) ∧ k lg1 S1 = some r ∧ Sim S1 T1 ∧ (∀ e ∈ lgT, e ∈ lg1) ∧ (∀ e ∈ lg, e ∈ lg1) := by
      intro S hs hg h
      obtain ⟨x, hx, h⟩ := Tr.run_dec (βs.headD true) _ h
      obtain ⟨k1, k2⟩ := step_go (hints := hints) (id := id) hs hg hx
      obtain ⟨T1, lgT, S1, lg1, q1, q2, q3, q4, q5⟩ := region_ok (hints := hints) n rest _ _ h _ k2 βs.tail
      refine ⟨T1, entOf C ops S (id * 256 + i + 1) i o x.1 x.2 :: lgT, S1, lg1, ?_, q2, q3, ?_, fun e he => q5 e (List.mem_cons_of_mem _ he)⟩
      · simp only [runD, k1, Option.bind_some, q1, Option.map_some]
      · intro e he
        rcases List.mem_cons.1 he with rfl | he
        · exact q5 _ List.mem_cons_self
        · exact q4 e he
    have hskip : ∀ S, Sim S T → guardB ops T o = some false → regionK C D hints id ops n rest (fin ops S i o .skip) (entSkip ops S (id * 256 + i + 1) i o :: lg) k = some r →
        ∃ T1 lgT S1 lg1, runD C D hints id ops βs ((i, o) :: rest) T = some (T1, lgT) ∧ k lg1 S1 = some r ∧ Sim S1 T1 ∧ (∀ e ∈ lgT, e ∈ lg1) ∧ (∀ e ∈ lg, e ∈ lg1) := by
      intro S hs hg h
      obtain ⟨k1, k2⟩ := step_skip (C := C) (D := D) (hints := hints) (id := id) (β := βs.headD true) hs hg
      obtain ⟨T1, lgT, S1, lg1, q1, q2, q3, q4, q5⟩ := region_ok (hints := hints) n rest _ _ h _ k2 βs.tail
      refine ⟨T1, entSkip ops S (id * 256 + i + 1) i o :: lgT, S1, lg1, ?_, q2, q3, ?_, fun e he => q5 e (List.mem_cons_of_mem _ he)⟩
      · simp only [runD, k1, Option.bind_some, q1, Option.map_some]
      · intro e he
        rcases List.mem_cons.1 he with rfl | he
        · exact q5 _ List.mem_cons_self
        · exact q4 e he
    simp only [regionK] at h
    split at h
    · rename_i hgd
      exact hgo S hs (guard_nil hgd) h
    · rename_i j b hgd
      split at h
      · rename_i hS
        exact hskip S hs (guard_skip hs hgd hS) h
      · rename_i c hS
        have hg := guard_sim hs hgd (.inl hS)
        split at h
        · rename_i hcb
          subst hcb
          exact hgo S hs (by simpa using hg) h
        · rename_i hcb
          exact hskip S hs (by rw [hg]; simpa using hcb) h
      · rename_i c hS
        split at h
        · rename_i S2 lg2 rest2 hj
          obtain ⟨seg, i2, o2, T', lgT, e1, k1, k2, k3, k4, k5⟩ := join_ok (segR_ok (hints := hints) n) hj hS hs βs
          obtain ⟨T1, lgT1, S1, lg1, q1, q2, q3, q4, q5⟩ := region_ok (hints := hints) n rest2 _ _ h _ k2 (βs.drop (seg.length + 1))
          refine ⟨T1, lgT ++ lgT1, S1, lg1, ?_, q2, q3, ?_, fun e he => q5 e (k4 e he)⟩
          · rw [e1, runD_join k1, q1]; rfl
          · intro e he
            rcases List.mem_append.1 he with he | he
            · exact q5 e (k3 e he)
            · exact q4 e he
        · have hg := guard_sim hs hgd (.inr hS)
          have hsim : Sim (S.set (dstOf ops j) (.litB c)) T := by
            have hTt : T.get (dstOf ops j) = .val .bool c := by
              rcases hs.get (dstOf ops j) with e | ⟨b, e1, _⟩
              · rw [e]; exact hS
              · rw [hS] at e1; simp at e1
            refine ⟨hs.rt, by simp [St.set, hs.len], fun u => ?_⟩
            rw [St.get_set]
            by_cases e : u = dstOf ops j ∧ dstOf ops j < S.sl.length
            · rw [if_pos e, e.1]; exact .inr ⟨c, rfl, hTt⟩
            · rw [if_neg e]; exact hs.get u
          cases c with
          | true =>
            simp only [br] at h
            split at h
            · rename_i hb; subst hb; exact hgo _ hsim (by simpa using hg) h
            · rename_i hb; exact hskip _ hsim (by rw [hg]; cases b <;> simp_all) h
          | false =>
            simp only [br] at h
            split at h
            · rename_i hb; subst hb; exact hgo _ hsim (by simpa using hg) h
            · rename_i hb; exact hskip _ hsim (by rw [hg]; cases b <;> simp_all) h
      · simp at h
end
theorem sim_rel {h : Array Obj} {S T : St} (hs : Sim S T) {g : Ghost} {tmps : Array Value} {H : BS} (st : StRel h T g tmps H) : StRel h S g tmps H := by
  have hr : ∀ r, S.root r = T.root r := fun r => by simp only [St.root, hs.rt]
  have hi : ∀ {r}, (S.root r).isSome → (T.root r).isSome := fun {r} h => by rw [← hr]; exact h
  have he : ∀ {r R}, S.root r = some R → T.root r = some R := fun {r R} h => by rw [← hr]; exact h
  have hl : S.sl.length = tmps.size := by rw [← hs.len]; exact st.len
  have hl2 : S.rt.length = tmps.size := by rw [← hs.rt]; exact st.rlen
  refine ⟨hl, hl2, ?_, fun r R hR => st.roots r R (he hR), fun r r' hn h1 h2 => st.dis r r' hn (hi h1) (hi h2), fun r h1 => st.prot r (hi h1), fun r h1 => st.hand r (hi h1), st.handPr, st.limPr, fun r b h1 => st.limG r b (hi h1), st.limH, fun r R hR => st.tag r R (he hR), fun r b h1 => st.own r b (hi h1), st.ownH, st.limL, st.p0, st.prL⟩
  intro t
  have := st.slots t
  have h2 := AVRel.sameRoots (S' := S) st hs.rt.symm this
  rcases hs.get t with e | ⟨b, e1, e2⟩
  · rw [e] at h2; exact h2
  · rw [e2] at h2
    rw [e1]
    simp only [AVRel, Rep] at h2 ⊢
    obtain ⟨c, rfl, e⟩ := h2
    exact e
end Go.V

namespace Go.V
open Go
theorem zero_inj_focusM : ∀ (p : Path) {t : Ty} {m : Mk} {t' : Ty} {m' : Mk}, focusM t m p = some (t', m') → focusM t m.restamp (p.map Stp.zero) = some (t', m'.restamp)
  | [], t, m, t', m', h => by
    have e : ∀ m, focusM t m [] = some (t, m) := fun m => by cases t <;> rfl
    rw [e] at h
    simp only [Option.some.injEq, Prod.mk.injEq] at h
    obtain ⟨rfl, rfl⟩ := h
    exact e _
  | .fst :: p, t, m, t', m', h => by
    cases t with
    | pair a b =>
      simp only [focusM] at h
      have e : m.restamp.fst = m.fst.restamp := by cases m <;> rfl
      simp only [List.map_cons, Stp.zero, focusM, e]
      exact zero_inj_focusM p h
    | _ => simp [focusM] at h
  | .snd :: p, t, m, t', m', h => by
    cases t with
    | pair a b =>
      simp only [focusM] at h
      have e : m.restamp.snd = m.snd.restamp := by cases m <;> rfl
      simp only [List.map_cons, Stp.zero, focusM, e]
      exact zero_inj_focusM p h
    | _ => simp [focusM] at h
  | .idx i s' :: p, t, m, t', m', h => by
    cases t with
    | sl e =>
      cases m with
      | own s b =>
        simp only [focusM] at h
        split at h
        · rename_i hs
          subst hs
          simp only [List.map_cons, Stp.zero, Mk.restamp, focusM, if_true]
          exact zero_inj_focusM p h
        · simp at h
      | _ => simp [focusM] at h
    | _ => simp [focusM] at h
theorem atP_zero {h : Array Obj} : ∀ (p : Path) (t : Ty) (c : List Value) (base : Base), atP h t c base (p.map Stp.zero) = atP h t c base p
  | [], t, c, base => rfl
  | .fst :: p, t, c, base => by cases t <;> simp only [List.map_cons, Stp.zero, atP]; exact atP_zero p _ _ _
  | .snd :: p, t, c, base => by cases t <;> simp only [List.map_cons, Stp.zero, atP]; exact atP_zero p _ _ _
  | .idx i s :: p, t, c, base => by
    cases t <;> simp only [List.map_cons, Stp.zero, atP]
    split
    · split
      · exact atP_zero p _ _ _
      · rfl
    · rfl
theorem inR_zero : ∀ (p : Path) (t : Ty) (x : t.den), inR t x (p.map Stp.zero) ↔ inR t x p
  | [], t, x => Iff.rfl
  | .fst :: p, t, x => by cases t <;> simp only [List.map_cons, Stp.zero, inR]; exact inR_zero p _ _
  | .snd :: p, t, x => by cases t <;> simp only [List.map_cons, Stp.zero, inR]; exact inR_zero p _ _
  | .idx i s :: p, t, x => by
    cases t <;> simp only [List.map_cons, Stp.zero, inR]
    rw [inR_zero p]
theorem TagC.restamp {hd : Nat → Value} : ∀ (t : Ty) {m : Mk} {c : List Value}, TagC hd t m c → TagC hd t m.restamp c
  | .unit, _, _, _ => by simp only [TagC]
  | .int _, _, _, _ => by simp only [TagC]
  | .bool, _, _, _ => by simp only [TagC]
  | .str, _, _, _ => by simp only [TagC]
  | .pair a b, m, c, h => by
    simp only [TagC] at h ⊢
    have h1 : m.restamp.fst = m.fst.restamp := by cases m <;> rfl
    have h2 : m.restamp.snd = m.snd.restamp := by cases m <;> rfl
    rw [h1, h2]
    exact ⟨TagC.restamp a h.1, TagC.restamp b h.2⟩
  | .sl t, m, c, h => by
    cases m with
    | own s mi =>
      have hf : ∀ m : Mk, m.tagFree = true → m.restamp.tagFree = true := by
        intro m
        induction m with
        | no => intro _; rfl
        | gone => intro _; rfl
        | own s m ih =>
          intro h
          simp only [Mk.tagFree, Bool.and_eq_true, blt_lt] at h
          simp only [Mk.restamp, Mk.tagFree, Bool.and_eq_true, blt_lt]
          exact ⟨by rw [if_pos h.1]; omega, ih h.2⟩
        | pr a b iha ihb =>
          intro h
          simp only [Mk.tagFree, Bool.and_eq_true] at h
          simp only [Mk.restamp, Mk.tagFree, Bool.and_eq_true]
          exact ⟨iha h.1, ihb h.2⟩
      simp only [Mk.restamp, TagC] at h ⊢
      refine ⟨fun h2 => ?_, hf _ h.2⟩
      split at h2
      · omega
      · rename_i hn; rw [if_neg hn]; exact h.1 h2
    | no => simp only [Mk.restamp, TagC]
    | gone => simp only [Mk.restamp, TagC]
    | pr _ _ => simp only [Mk.restamp, TagC]
theorem canonRoot_some {x : Option Root} {R' : Root} (h : canonRoot x = some R') : ∃ R, x = some R ∧ R' = { R with ms := R.ms.restamp } := by
  unfold canonRoot at h
  cases x with
  | none => simp at h
  | some R =>
    simp only [Option.bind_some] at h
    split at h
    · simp at h
    · simp only [Option.some.injEq] at h; exact ⟨R, rfl, h.symm⟩
theorem canonRt_at (ment : List Nat) : ∀ (l : List (Option Root)) (i r : Nat), (canonRt ment i l).getD r none = if ment.contains (i + r) then canonRoot (l.getD r none) else none
  | [], i, r => by simp [canonRt, canonRoot, List.getD]
  | x :: l, i, r => by
    simp only [canonRt]
    cases r with
    | zero => simp only [List.getD_cons_zero, Nat.add_zero]
    | succ r =>
      simp only [List.getD_cons_succ]
      rw [canonRt_at ment l (i + 1) r, show i + 1 + r = i + (r + 1) by omega]
theorem canonRt_len (ment : List Nat) : ∀ (l : List (Option Root)) (i : Nat), (canonRt ment i l).length = l.length
  | [], _ => rfl
  | x :: l, i => by simp [canonRt, canonRt_len ment l]
theorem canonSl_at (S : St) (keep : List Nat) : ∀ (l : List AV) (i t : Nat), (canonSl S keep i l).getD t .undef = if keep.contains (i + t) then (l.getD t .undef).canon S else .undef
  | [], i, t => by simp [canonSl, AV.canon, List.getD]
  | x :: l, i, t => by
    simp only [canonSl]
    cases t with
    | zero => simp only [List.getD_cons_zero, Nat.add_zero]
    | succ t =>
      simp only [List.getD_cons_succ]
      rw [canonSl_at S keep l (i + 1) t, show i + 1 + t = i + (t + 1) by omega]
theorem canonSl_len (S : St) (keep : List Nat) : ∀ (l : List AV) (i : Nat), (canonSl S keep i l).length = l.length
  | [], _ => rfl
  | x :: l, i => by simp [canonSl, canonSl_len S keep l]
section
variable {h : Array Obj} {S : St} {g : Ghost} {tmps : Array Value} {H : BS} (st : StRel h S g tmps H)
include st
theorem canon_root {keep extra : List Nat} {r : Nat} {R' : Root} (hr : (S.canon keep extra).root r = some R') : ∃ R, S.root r = some R ∧ R' = { R with ms := R.ms.restamp } := by
  simp only [St.canon, St.root, Rts.root] at hr
  rw [canonRt_at] at hr
  split at hr
  · exact canonRoot_some hr
  · simp at hr
theorem brw_canon {keep extra : List Nat} {r : Nat} {p : Path} {s : Nat} {v : Value} {t : Ty} {m : Mk} {xs : (Ty.sl t).den} (hf : S.rt.focus r p = some ⟨.sl t, .own s m, xs⟩) (x : BrwOk h S g r p s v) :
    BrwOk h (S.canon keep extra) g r (p.map Stp.zero) (if s < 1048576 then 0 else s) v := by
  obtain ⟨R, base, F, hR, hfR, hin, hat, _⟩ := brw_read st hf rfl x
  intro R' hR' t' m' xs' hf'
  obtain ⟨R2, hR2, rfl⟩ := canon_root st hR'
  rw [hR] at hR2
  simp only [Option.some.injEq] at hR2
  subst hR2
  exact ⟨(inR_zero p _ _).2 hin, base, by rw [atP_zero]; exact hat⟩
theorem addr_canon {keep extra : List Nat} {r : Nat} {p : Path} {v : Value} {d : Dy} (hf : S.rt.focus r p = some d) (x : AddrOk h S g r p v) : AddrOk h (S.canon keep extra) g r (p.map Stp.zero) v := by
  simp only [Rts.focus] at hf
  split at hf
  · rename_i R hR
    obtain ⟨hin, b, o, c, hat, e⟩ := x R hR d hf
    intro R' hR' d' hf'
    obtain ⟨R2, hR2, rfl⟩ := canon_root st hR'
    have : R = R2 := by
      have h1 : S.root r = some R := hR
      rw [h1] at hR2
      simpa using hR2
    subst this
    exact ⟨(inR_zero p _ _).2 hin, b, o, c, by rw [atP_zero]; exact hat, e⟩
  · simp at hf
theorem canonC {keep extra : List Nat} : ∀ {a : AV} {c : List Value}, AVC h S g a c → AVC h (S.canon keep extra) g (a.canon S) c
  | .undef, _, _ => by simp only [AV.canon, AVC]
  | .unit, _, y => y
  | .val t x, _, y => y
  | .brw r p s, c, y => by
    simp only [AVC] at y
    obtain ⟨v, rfl, y⟩ := y
    simp only [AV.canon]
    split
    · rename_i t s' m xs hf
      split
      · rename_i hs; subst hs
        simp only [AVC]
        exact ⟨v, rfl, brw_canon st hf y⟩
      · simp only [AVC]
    · simp only [AVC]
  | .pair a b, c, y => by
    simp only [AVC] at y
    obtain ⟨ca, cb, rfl, y1, y2⟩ := y
    simp only [AV.canon, AVC]
    exact ⟨ca, cb, rfl, canonC y1, canonC y2⟩
  | .skip, _, y => y.elim
  | .litB _, _, y => y.elim
  | .nils, _, y => y.elim
  | .view _ _ _ _ _, _, y => y.elim
  | .addr _ _, _, y => y.elim
  | .raddr _ _, _, y => y.elim
  | .tup _, _, y => y.elim
  | .clo _ _, _, y => y.elim
  | .cloV _, _, y => y.elim
theorem canonA {keep extra : List Nat} : ∀ (a : AV), (∀ v, AVRel h S g a v → AVRel h (S.canon keep extra) g (a.canon S) v) ∧ (∀ vs, TupRel h S g a vs → TupRel h (S.canon keep extra) g (a.canon S) vs) := by
  intro a
  induction a with
  | undef => exact ⟨fun _ _ => by simp only [AV.canon, AVRel], fun _ y => by simp only [TupRel] at y⟩
  | skip => exact ⟨fun _ y => y, fun _ y => by simp only [TupRel] at y⟩
  | litB b => exact ⟨fun _ y => y, fun _ y => by simp only [TupRel] at y⟩
  | unit => exact ⟨fun _ y => y, fun _ y => y⟩
  | nils => exact ⟨fun _ y => y, fun _ y => by simp only [TupRel] at y⟩
  | val t x => exact ⟨fun _ y => y, fun _ y => by simp only [TupRel] at y⟩
  | brw r p s =>
    refine ⟨fun v y => ?_, fun _ y => by simp only [TupRel] at y⟩
    simp only [AVRel] at y
    simp only [AV.canon]
    split
    · rename_i t s' m xs hf
      split
      · rename_i hs; subst hs
        simp only [AVRel]
        exact brw_canon st hf y
      · simp only [AVRel]
    · simp only [AVRel]
  | view r p s lo hi => exact ⟨fun _ _ => by simp only [AV.canon, AVRel], fun _ y => by simp only [TupRel] at y⟩
  | addr r p =>
    refine ⟨fun v y => ?_, fun _ y => by simp only [TupRel] at y⟩
    simp only [AVRel] at y
    simp only [AV.canon]
    split
    · rename_i d hf
      simp only [AVRel]
      exact addr_canon st hf y
    · simp only [AVRel]
  | raddr t x => exact ⟨fun _ y => y, fun _ y => by simp only [TupRel] at y⟩
  | pair a b iha ihb =>
    refine ⟨fun v y => ?_, fun vs y => ?_⟩
    · simp only [AVRel] at y
      obtain ⟨ca, cb, e, y1, y2⟩ := y
      simp only [AV.canon, AVRel]
      exact ⟨ca, cb, e, canonC st y1, canonC st y2⟩
    · simp only [TupRel] at y
      obtain ⟨v, vs', e, y1, y2⟩ := y
      simp only [AV.canon, TupRel]
      exact ⟨v, vs', e, iha.1 v y1, ihb.2 vs' y2⟩
  | tup a iha => exact ⟨fun _ _ => by simp only [AV.canon, AVRel], fun _ y => by simp only [TupRel] at y⟩
  | clo f a iha =>
    refine ⟨fun v y => ?_, fun _ y => by simp only [TupRel] at y⟩
    simp only [AVRel] at y
    obtain ⟨vs, e, y⟩ := y
    simp only [AV.canon, AVRel]
    exact ⟨vs, e, iha.2 vs y⟩
  | cloV c => exact ⟨fun _ y => y, fun _ y => by simp only [TupRel] at y⟩
theorem canon_ok (keep extra : List Nat) : StRel h (S.canon keep extra) g tmps H := by
  have hs : ∀ r, ((S.canon keep extra).root r).isSome → (S.root r).isSome := by
    intro r h1
    obtain ⟨R', hR'⟩ := Option.isSome_iff_exists.1 h1
    obtain ⟨R, hR, _⟩ := canon_root st hR'
    rw [hR]; rfl
  refine ⟨?_, ?_, ?_, ?_, fun r r' hn h1 h2 => st.dis r r' hn (hs r h1) (hs r' h2), fun r h1 => st.prot r (hs r h1), fun r h1 => st.hand r (hs r h1), st.handPr, st.limPr, fun r b h1 => st.limG r b (hs r h1), st.limH, ?_, fun r b h1 => st.own r b (hs r h1), st.ownH, st.limL, st.p0, st.prL⟩
  · simp only [St.canon]; rw [canonSl_len]; exact st.len
  · simp only [St.canon]; rw [canonRt_len]; exact st.rlen
  · intro t
    simp only [St.get, St.canon]
    rw [canonSl_at]
    split
    · exact (canonA st _).1 _ (st.slots t)
    · simp only [AVRel]
  · intro r R' hR'
    obtain ⟨R, hR, rfl⟩ := canon_root st hR'
    obtain ⟨F, q1, q2⟩ := st.roots r R hR
    exact ⟨F, (Rep.restamp R.ty).1 q1, q2⟩
  · intro r R' hR'
    obtain ⟨R, hR, rfl⟩ := canon_root st hR'
    exact TagC.restamp _ (st.tag r R hR)
end
end Go.V

namespace Go.V
open Go
def Ex.out : Ex → Exit
  | .normal => .normal
  | .exit id => .exit id
  | .ret => .ret
theorem text_at {ops : Array Oper} : ∀ x ∈ textOf ops, ops[x.1]? = some x.2 := by
  intro x hx
  simp only [textOf, List.mem_map] at hx
  obtain ⟨y, hy, rfl⟩ := hx
  have := List.mem_zipIdx_iff_getElem?.1 hy
  simpa using this
theorem text_range {ops : Array Oper} : (textOf ops).map (·.1) = List.range ops.size := by
  simp only [textOf, List.map_map]
  apply List.ext_getElem?
  intro i
  simp only [List.getElem?_map, List.getElem?_zipIdx, List.getElem?_range']
  by_cases h : i < ops.size
  · simp [h]
  · simp [h]
theorem guards_ok {ops : Array Oper} (h : guardsOk ops = true) : ∀ (i : Nat) o j c, ops[i]? = some o → o.guard = some (j, c) → ∃ oj t, ops[j]? = some oj ∧ oj.dst = some t := by
  intro i o j c ho hg
  simp only [guardsOk, List.all_eq_true] at h
  have := h o (by rw [Array.mem_toList_iff]; exact Array.mem_of_getElem? ho)
  rw [hg] at this
  simp only [Option.isSome_iff_exists, Option.bind_eq_some_iff] at this
  obtain ⟨t, oj, h1, h2⟩ := this
  exact ⟨oj, t, h1, h2⟩
theorem ops_from {np : List Nat} {ops : Array Oper} (h : opsFrom np ops = true) : ∀ x ∈ textOf ops, ∀ d, x.2.dst = some d → d ∉ np := by
  intro x hx d hd
  simp only [opsFrom, List.all_eq_true] at h
  have := h x.2 (by rw [Array.mem_toList_iff]; exact Array.mem_of_getElem? (text_at x hx))
  rw [hd] at this
  simpa using this
section
variable {P : Program} {C : Ctx} {D : Den C} (hty : AllTy P C) (dok : DOk P C D)
include hty dok
def Goes (np : List Nat) (P : Program) (C : Ctx) (Q : Exit → Act → World → Prop) {R : Type} (r : R) (c : Code) (S : St) (k : Ex → St → Option R) (g : Ghost) (a : Act) (w : World) : Prop :=
  StRel w.heap S g a.tmps Nil → a.defers = [] → (∀ e S' g' a' w', k e S' = some r → StRel w'.heap S' g' a'.tmps Nil → g'.Same g → WFr g.L w w' → a'.defers = [] → Fixed np a a' → Q e.out a' w') → c.wp P Q a w
theorem region_wp {np : List Nat} {R : Type} {r : R} {H : Hints} {id : Nat} {ops : Array Oper} {S : St} {k : Ex → St → Option R} {Q : Exit → Act → World → Prop} {g : Ghost} {a : Act} {w : World} {n : Nat}
    (hnp : opsFrom np ops = true) (h : exec C D H n (.region id ops false) S k = some r) : Goes np P C Q r (.region id ops false) S k g a w := by
  intro st hdf hQ
  simp only [exec] at h
  split at h
  · rename_i hgd
    have hR := fun βs => region_ok (hints := H) _ _ _ _ h S (Sim.refl S) βs
    refine wp_region ?_
    rw [← text_range]
    refine run_ok (hints := H) (id := id) hty dok (guards_ok hgd) (textOf ops) S g a w text_at (ops_from hnp) st hdf (fun βs => ?_) ?_
    · obtain ⟨T1, lgT, S1, lg1, q1, _⟩ := hR βs
      exact ⟨_, q1⟩
    · intro βs S' lg a' w' g' hr st' hsm hfr hdf' hfx
      obtain ⟨T1, lgT, S1, lg1, q1, q2, q3, _⟩ := hR βs
      rw [hr] at q1
      simp only [Option.some.injEq, Prod.mk.injEq] at q1
      obtain ⟨rfl, rfl⟩ := q1
      simp only [Bool.false_eq_true, if_false] at q2
      exact hQ .normal S1 g' a' w' q2 (sim_rel q3 st') hsm hfr hdf' hfx
  · simp at h
end
end Go.V

namespace Go.V
open Go
section
variable {C : Ctx} {D : Den C} {A : Asks} {S : Rts} {site : Nat} {hint : Bool}
theorem map_pairs {ρ ρ' : Operand → AV} {ps : Array (Nat × Operand)} (h : ∀ x ∈ (ps.toList.map (·.2)).toArray, ρ' x = ρ x) : (ps.toList.map fun p => (p.1, ρ' p.2)) = ps.toList.map fun p => (p.1, ρ p.2) := by
  apply List.map_congr_left
  intro p hp
  rw [h p.2 (by simp only [List.mem_toArray, List.mem_map]; exact ⟨p, hp, rfl⟩)]
theorem op_congr {ρ ρ' : Operand → AV} (o : Oper) (h : ∀ x ∈ o.op.operands, ρ' x = ρ x) : opT C D A ρ' S site hint o = opT C D A ρ S site hint o := by
  cases ho : o.op with
  | build t ps =>
    rw [ho] at h; simp only [Op.operands] at h
    simp only [opT, ho]; rw [map_pairs h]
  | buildSlice t n ps =>
    rw [ho] at h; simp only [Op.operands] at h
    simp only [opT, ho]; rw [map_pairs h]
  | makeFunc f first caps =>
    rw [ho] at h; simp only [Op.operands] at h
    simp only [opT, ho]
    cases f with
    | func f =>
      have : caps.toList.foldr (fun x r => AV.pair (ρ' x) r) .unit = caps.toList.foldr (fun x r => AV.pair (ρ x) r) .unit := by
        have hc : ∀ x ∈ caps.toList, ρ' x = ρ x := fun x hx => h x (by simp at hx ⊢; exact .inr hx)
        revert hc
        generalize caps.toList = l
        intro hc
        induction l with
        | nil => rfl
        | cons y l ih => simp only [List.foldr_cons]; rw [hc y List.mem_cons_self, ih (fun x hx => hc x (List.mem_cons_of_mem _ hx))]
      simp only [this]
    | _ => rfl
  | slice t x lo hi mx =>
    rw [ho] at h; simp only [Op.operands] at h
    cases mx with
    | some v => simp only [opT, ho]
    | none =>
      simp only [opT, ho]
      have h1 : ρ' x = ρ x := h x (by simp)
      have h2 : lo.map ρ' = lo.map ρ := by cases lo with
        | none => rfl
        | some v => simp only [Option.map_some]; rw [h v (by simp)]
      have h3 : hi.map ρ' = hi.map ρ := by cases hi with
        | none => rfl
        | some v => simp only [Option.map_some]; rw [h v (by simp)]
      rw [h1, h2, h3]
  | call c =>
    rw [ho] at h; simp only [Op.operands] at h
    have ha : c.args.toList.map ρ' = c.args.toList.map ρ := List.map_congr_left fun x hx => h x (by simp only [Call.operands, Array.mem_append]; right; simpa using hx)
    simp only [opT, ho]
    rw [ha]
    cases hc : c.callee with
    | builtin b => rfl
    | value f =>
      have : ρ' f = ρ f := h f (by simp [Call.operands, hc])
      simp only [this]
    | invoke r m => rfl
  | pick c a b => rw [ho] at h; simp only [Op.operands] at h; simp only [opT, ho]; rw [h c (by simp), h a (by simp), h b (by simp)]
  | store t a b => rw [ho] at h; simp only [Op.operands] at h; simp only [opT, ho]; rw [h a (by simp), h b (by simp)]
  | binOp op t a b t2 => rw [ho] at h; simp only [Op.operands] at h; simp only [opT, ho]; rw [h a (by simp), h b (by simp)]
  | makeSlice t a b => rw [ho] at h; simp only [Op.operands] at h; simp only [opT, ho]; rw [h a (by simp), h b (by simp)]
  | indexAddr t a b => rw [ho] at h; simp only [Op.operands] at h; simp only [opT, ho]; rw [h a (by simp), h b (by simp)]
  | index t a b => rw [ho] at h; simp only [Op.operands] at h; simp only [opT, ho]; rw [h a (by simp), h b (by simp)]
  | move x => rw [ho] at h; simp only [Op.operands] at h; simp only [opT, ho]; rw [h x (by simp)]
  | assign x => rw [ho] at h; simp only [Op.operands] at h; simp only [opT, ho]; rw [h x (by simp)]
  | box t x => rw [ho] at h; simp only [Op.operands] at h; simp only [opT, ho]; rw [h x (by simp)]
  | load t x => rw [ho] at h; simp only [Op.operands] at h; simp only [opT, ho]; rw [h x (by simp)]
  | nilCheck x => rw [ho] at h; simp only [Op.operands] at h; simp only [opT, ho]; rw [h x (by simp)]
  | unOp op t x => rw [ho] at h; simp only [Op.operands] at h; simp only [opT, ho]; rw [h x (by simp)]
  | convert s d x => rw [ho] at h; simp only [Op.operands] at h; simp only [opT, ho]; rw [h x (by simp)]
  | fieldAddr s x f => rw [ho] at h; simp only [Op.operands] at h; simp only [opT, ho]; rw [h x (by simp)]
  | field s x f => rw [ho] at h; simp only [Op.operands] at h; simp only [opT, ho]; rw [h x (by simp)]
  | extract x i => rw [ho] at h; simp only [Op.operands] at h; simp only [opT, ho]; rw [h x (by simp)]
  | _ => simp only [opT, ho]
theorem wr_congr {ρ ρ' : Operand → AV} (o : Oper) (h : ∀ x ∈ o.op.operands, ρ' x = ρ x) : wrOf C ρ' o = wrOf C ρ o := by
  have hall : o.op.operands.toList.map ρ' = o.op.operands.toList.map ρ := List.map_congr_left fun x hx => h x (by simpa using hx)
  unfold wrOf
  rw [hall]
  cases ho : o.op with
  | assign x => rw [ho] at h; simp only [Op.operands] at h; simp only [h x (by simp)]
  | call c =>
    rw [ho] at h; simp only [Op.operands] at h
    have ha : c.args.toList.map ρ' = c.args.toList.map ρ := List.map_congr_left fun x hx => h x (by simp only [Call.operands, Array.mem_append]; right; simpa using hx)
    simp only
    rw [ha]
    cases hc : c.callee with
    | builtin b => cases b <;> rfl
    | value f =>
      have : ρ' f = ρ f := h f (by simp [Call.operands, hc])
      simp only [this]
    | invoke r m => rfl
  | _ => rfl
theorem loc_congr {ρ ρ' : Operand → AV} (o : Oper) (h : ∀ x ∈ o.op.operands, ρ' x = ρ x) : locOp C ρ' o = locOp C ρ o := by
  unfold locOp
  cases ho : o.op with
  | call c =>
    rw [ho] at h; simp only [Op.operands] at h
    have ha : c.args.toList.map ρ' = c.args.toList.map ρ := List.map_congr_left fun x hx => h x (by simp only [Call.operands, Array.mem_append]; right; simpa using hx)
    simp only
    rw [ha]
    cases hc : c.callee with
    | builtin b => cases b <;> rfl
    | value f =>
      have : ρ' f = ρ f := h f (by simp [Call.operands, hc])
      simp only [this]
    | invoke r m => rfl
  | slice t x lo hi mx => cases mx <;> rfl
  | _ => rfl
def RAgree (F : List Nat) (S S' : Rts) : Prop := ∀ r, r ∈ F → S'.root r = S.root r
theorem RAgree.sub {F G : List Nat} {S S' : Rts} (h : RAgree F S S') (hs : ∀ r ∈ G, r ∈ F) : RAgree G S S' := fun r hr => h r (hs r hr)
theorem focus_local {F : List Nat} {S S' : Rts} (h : RAgree F S S') {r : Nat} (hr : r ∈ F) (p : Path) : S'.focus r p = S.focus r p := by
  simp only [Rts.focus, h r hr]
theorem rd_local {S S' : Rts} : ∀ (t : Ty) (a : AV), RAgree a.roots S S' → rd S' t a = rd S t a
  | t, .pair u v, h => by
    cases t with
    | pair a b =>
      simp only [rd]
      rw [rd_local a u (h.sub fun r hr => by simp [AV.roots, hr]), rd_local b v (h.sub fun r hr => by simp [AV.roots, hr])]
    | _ => simp [rd]
  | t, .brw r p s, h => by
    cases t with
    | sl e => simp only [rd]; rw [focus_local h (by simp [AV.roots])]
    | _ => simp [rd]
  | t, .val t' x, h => by cases t <;> simp only [rd]
  | t, .undef, h => by cases t <;> simp [rd]
  | t, .skip, h => by cases t <;> simp [rd]
  | t, .litB b, h => by cases t <;> simp [rd]
  | t, .unit, h => by cases t <;> simp [rd]
  | t, .nils, h => by cases t <;> simp [rd]
  | t, .view _ _ _ _ _, h => by cases t <;> simp [rd]
  | t, .addr _ _, h => by cases t <;> simp [rd]
  | t, .raddr _ _, h => by cases t <;> simp [rd]
  | t, .tup _, h => by cases t <;> simp [rd]
  | t, .clo _ _, h => by cases t <;> simp [rd]
  | t, .cloV _, h => by cases t <;> simp [rd]
theorem caps_local {S S' : Rts} : ∀ (a : AV), RAgree a.roots S S' → capsOf S' a = capsOf S a
  | .pair (.addr r p) rest, h => by
    simp only [capsOf]
    rw [focus_local h (by simp [AV.roots]), caps_local rest (h.sub fun r hr => by simp [AV.roots, hr])]
  | .pair (.raddr t x) rest, h => by simp only [capsOf]; rw [caps_local rest (h.sub fun r hr => by simp [AV.roots, hr])]
  | .pair (.val t x) rest, h => by simp only [capsOf]; rw [caps_local rest (h.sub fun r hr => by simp [AV.roots, hr])]
  | .unit, h => rfl
  | .pair .undef _, h => rfl
  | .pair .skip _, h => rfl
  | .pair (.litB _) _, h => rfl
  | .pair .unit _, h => rfl
  | .pair .nils _, h => rfl
  | .pair (.brw _ _ _) _, h => rfl
  | .pair (.view _ _ _ _ _) _, h => rfl
  | .pair (.pair _ _) _, h => rfl
  | .pair (.tup _) _, h => rfl
  | .pair (.clo _ _) _, h => rfl
  | .pair (.cloV _) _, h => rfl
  | .undef, h => rfl
  | .skip, h => rfl
  | .litB _, h => rfl
  | .nils, h => rfl
  | .val _ _, h => rfl
  | .brw _ _ _, h => rfl
  | .view _ _ _ _ _, h => rfl
  | .addr _ _, h => rfl
  | .raddr _ _, h => rfl
  | .tup _, h => rfl
  | .clo _ _, h => rfl
  | .cloV _, h => rfl
theorem mem_rootsAll {a : AV} {l : List AV} (h : a ∈ l) : ∀ r ∈ a.roots, r ∈ rootsAll l := by
  induction l with
  | nil => simp at h
  | cons b l ih =>
    intro r hr
    simp only [rootsAll, List.mem_append]
    rcases List.mem_cons.1 h with rfl | h
    · exact .inl hr
    · exact .inr (ih h r hr)
theorem rootsAll_append (l l2 : List AV) : ∀ r, r ∈ rootsAll (l ++ l2) ↔ r ∈ rootsAll l ∨ r ∈ rootsAll l2 := by
  intro r
  induction l with
  | nil => simp [rootsAll]
  | cons a l ih => simp only [List.cons_append, rootsAll, List.mem_append, ih, or_assoc]
theorem avList_roots : ∀ (a : AV), ∀ r ∈ rootsAll (avList a), r ∈ a.roots
  | .pair a b, r, h => by
    simp only [avList, rootsAll, List.mem_append] at h
    simp only [AV.roots, List.mem_append]
    exact h.imp id (avList_roots b r)
  | .undef, r, h => by simp [avList, rootsAll] at h
  | .skip, r, h => by simp [avList, rootsAll] at h
  | .litB _, r, h => by simp [avList, rootsAll] at h
  | .unit, r, h => by simp [avList, rootsAll] at h
  | .nils, r, h => by simp [avList, rootsAll] at h
  | .val _ _, r, h => by simp [avList, rootsAll] at h
  | .brw _ _ _, r, h => by simp [avList, rootsAll] at h
  | .view _ _ _ _ _, r, h => by simp [avList, rootsAll] at h
  | .addr _ _, r, h => by simp [avList, rootsAll] at h
  | .raddr _ _, r, h => by simp [avList, rootsAll] at h
  | .tup _, r, h => by simp [avList, rootsAll] at h
  | .clo _ _, r, h => by simp [avList, rootsAll] at h
  | .cloV _, r, h => by simp [avList, rootsAll] at h
theorem argDen_local {S S' : Rts} : ∀ (ks : List PK) (avs : List AV) (g : GDen ks) (o : ODen ks), RAgree (rootsAll avs) S S' → argDen S' ks avs g o = argDen S ks avs g o
  | [], [], _, _, _ => rfl
  | [], _ :: _, _, _, _ => rfl
  | k :: ks, [], g, o, _ => by cases k <;> rfl
  | k :: ks, a :: avs, g, o, h => by
    have h1 : RAgree a.roots S S' := h.sub fun r hr => by simp [rootsAll, hr]
    have h2 : RAgree (rootsAll avs) S S' := h.sub fun r hr => by simp [rootsAll, hr]
    cases k with
    | val t => simp only [argDen]; rw [rd_local t a h1, argDen_local ks avs g o h2]
    | own t m => simp only [argDen]; rw [argDen_local ks avs g.2 o h2]
    | mutp t m m' => simp only [argDen]; rw [argDen_local ks avs g o.2 h2]
    | mutv t m m' => simp only [argDen]; rw [argDen_local ks avs g o.2 h2]
    | rptr t =>
      cases a with
      | raddr t' x => simp only [argDen]; rw [argDen_local ks avs g o h2]
      | addr q p => simp only [argDen]; rw [focus_local h1 (by simp [AV.roots]), argDen_local ks avs g o h2]
      | _ => rfl
    | fn =>
      cases a with
      | clo f c => simp only [argDen]; rw [caps_local c (h1.sub fun r hr => by simpa [AV.roots] using hr), argDen_local ks avs g o h2]
      | cloV c => simp only [argDen]; rw [argDen_local ks avs g o h2]
      | _ => rfl
theorem rdAll_local {S S' : Rts} : ∀ (ts : List Ty) (avs : List AV), RAgree (rootsAll avs) S S' → rdAll S' ts avs = rdAll S ts avs
  | [], [], _ => rfl
  | [], _ :: _, _ => rfl
  | _ :: _, [], _ => rfl
  | t :: ts, a :: avs, h => by
    simp only [rdAll]
    rw [rd_local t a (h.sub fun r hr => by simp [rootsAll, hr]), rdAll_local ts avs (h.sub fun r hr => by simp [rootsAll, hr])]
theorem lenSl_local {S S' : Rts} (a : AV) (h : RAgree a.roots S S') : lenSl S' a = lenSl S a := by
  cases a with
  | brw r p s => simp only [lenSl]; rw [focus_local h (by simp [AV.roots])]
  | val t x => cases t <;> rfl
  | _ => rfl
end
end Go.V

namespace Go.V
open Go
section
variable {C : Ctx} {D : Den C}
theorem loadAV_local {S S' : Rts} (t : Ty) (a : AV) (h : RAgree a.roots S S') : loadAV S' t a = loadAV S t a := by
  cases a with
  | addr r p => simp only [loadAV]; rw [focus_local h (by simp [AV.roots])]
  | _ => rfl
theorem fieldAddr_local {S S' : Rts} (t : Ty) (a : AV) (f : Nat) (h : RAgree a.roots S S') : fieldAddrAV S' t a f = fieldAddrAV S t a f := by
  cases a with
  | addr r p => simp only [fieldAddrAV]; rw [focus_local h (by simp [AV.roots])]
  | _ => rfl
theorem indexT_local {S S' : Rts} (t : Ty) (a i : AV) (h : RAgree a.roots S S') : indexT S' t a i = indexT S t a i := by
  cases a with
  | brw r p s => simp only [indexT]; rw [focus_local h (by simp [AV.roots])]
  | val t x => cases t <;> rfl
  | _ => rfl
def SameWay (T T' : Tr (AV × Rts)) (S S' : Rts) : Prop := ∀ β v rt', T.dec β = some (v, rt') → rt' = S ∧ T'.dec β = some (v, S')
theorem SameWay.ret {v : AV} {S S' : Rts} : SameWay (.ret (v, S)) (.ret (v, S')) S S' := by
  intro β v' rt' h
  simp only [Tr.dec, Option.some.injEq, Prod.mk.injEq] at h
  exact ⟨h.2.symm, by simp [Tr.dec, h.1]⟩
theorem SameWay.fail {T' : Tr (AV × Rts)} {S S' : Rts} : SameWay .fail T' S S' := by
  intro β v' rt' h; simp [Tr.dec] at h
theorem SameWay.br {c : Bool} {x y x' y' : Tr (AV × Rts)} {S S' : Rts} (h1 : SameWay x x' S S') (h2 : SameWay y y' S S') : SameWay (.br c x y) (.br c x' y') S S' := by
  intro β v rt' h
  cases c
  · exact h2 β v rt' h
  · exact h1 β v rt' h
theorem SameWay.nil {n : Nat} {b : Bool} {f : Bool → AV} {S S' : Rts} : SameWay (.nil n b fun b => .ret (f b, S)) (.nil n b fun b => .ret (f b, S')) S S' := by
  intro β v rt' h
  simp only [Tr.dec, Option.some.injEq, Prod.mk.injEq] at h ⊢
  exact ⟨h.2.symm, h.1, trivial⟩
theorem SameWay.ofMap {α : Type} {x : Option α} {f : α → AV} {S S' : Rts} : SameWay (.of (x.map fun a => (f a, S))) (.of (x.map fun a => (f a, S'))) S S' := by
  cases x with
  | none => exact SameWay.fail
  | some a => exact SameWay.ret
theorem SameWay.call {α : Type} {x : Option α} {f f' : α → Tr (AV × Rts)} {S S' : Rts} (h : ∀ a, SameWay (f a) (f' a) S S') : SameWay (.call x f) (.call x f') S S' := by
  intro β v rt' hh
  cases x with
  | none => simp [Tr.dec] at hh
  | some a => exact h a β v rt' hh
theorem argOwn_plain {S S' : Rts} : ∀ (ks : List PK) (avs : List AV), ks.all PK.plain = true → argOwn S' ks avs = (argOwn S ks avs).map fun z => (z.1, S')
  | [], [], _ => rfl
  | [], _ :: _, _ => rfl
  | k :: ks, [], _ => by cases k <;> rfl
  | k :: ks, a :: avs, h => by
    simp only [List.all_cons, Bool.and_eq_true] at h
    cases k with
    | val t => simp only [argOwn]; exact argOwn_plain ks avs h.2
    | rptr t => simp only [argOwn]; exact argOwn_plain ks avs h.2
    | fn => simp only [argOwn]; exact argOwn_plain ks avs h.2
    | _ => simp [PK.plain] at h
theorem argLend_plain {S S' : Rts} : ∀ (ks : List PK) (avs : List AV), ks.all PK.plain = true → argLend S' ks avs = (argLend S ks avs).map fun z => (z.1, S')
  | [], [], _ => rfl
  | [], _ :: _, _ => rfl
  | k :: ks, [], _ => by cases k <;> rfl
  | k :: ks, a :: avs, h => by
    simp only [List.all_cons, Bool.and_eq_true] at h
    cases k with
    | val t => simp only [argLend]; exact argLend_plain ks avs h.2
    | rptr t => simp only [argLend]; exact argLend_plain ks avs h.2
    | fn => simp only [argLend]; exact argLend_plain ks avs h.2
    | _ => simp [PK.plain] at h
theorem argOwn_id {S rt : Rts} {ks : List PK} {avs : List AV} {g : GDen ks} (hp : ks.all PK.plain = true) (h : argOwn S ks avs = some (g, rt)) : rt = S := by
  have := argOwn_plain (S := S) (S' := S) ks avs hp
  rw [h] at this
  simp only [Option.map_some, Option.some.injEq, Prod.mk.injEq, true_and] at this
  exact this
theorem argLend_id {S rt : Rts} {ks : List PK} {avs : List AV} {g : ODen ks} (hp : ks.all PK.plain = true) (h : argLend S ks avs = some (g, rt)) : rt = S := by
  have := argLend_plain (S := S) (S' := S) ks avs hp
  rw [h] at this
  simp only [Option.map_some, Option.some.injEq, Prod.mk.injEq, true_and] at this
  exact this
theorem layStill {A A' : Asks} {S S' : Rts} (hl : S'.length = S.length) {d : Option Nat} {site : Nat} {t : Ty} {m : Mk} {x : t.den} (hs : m.still = true) : SameWay (layT A S d site t m x false) (layT A' S' d site t m x false) S S' := by
  cases d with
  | none => exact SameWay.ret
  | some d =>
    simp only [layT, hs, if_true, Bool.false_eq_true, if_false, hl]
    split
    · exact SameWay.fail
    · exact SameWay.ret
theorem resMk_still : ∀ (rs : List RK), rs.all (fun k => !k.isPtr && k.ms.still) = true → (resMk rs).still = true
  | [], _ => rfl
  | k :: rs, h => by
    simp only [List.all_cons, Bool.and_eq_true] at h
    simp only [resMk, Mk.still, Bool.and_eq_true]
    exact ⟨h.1.2, resMk_still rs h.2⟩
theorem layResStill {A A' : Asks} {S S' : Rts} (hl : S'.length = S.length) {d : Option Nat} {site : Nat} : ∀ (rs : List RK) (r : RDen rs), rs.all (fun k => !k.isPtr && k.ms.still) = true → SameWay (layRes A S d site rs r) (layRes A' S' d site rs r) S S'
  | [], r, _ => SameWay.ret
  | [.val t m], r, h => by
    simp only [List.all_cons, Bool.and_eq_true] at h
    simp only [layRes]
    split
    · exact layStill hl h.1.2
    · exact SameWay.fail
  | [.ptr t m], r, h => by simp [RK.isPtr] at h
  | q1 :: q2 :: rs, r, h => by
    have e1 : ∀ (A : Asks) (S : Rts), layRes A S d site (q1 :: q2 :: rs) r = layMany A S d site (q1 :: q2 :: rs) r := by intro A S; cases q1 <;> rfl
    rw [e1, e1]
    unfold layMany
    split
    · cases d with
      | none => exact SameWay.ret
      | some d =>
        have hs := resMk_still _ h
        have e2 : ∀ (A : Asks) (S : Rts), layT A S (some d) site (resTy (q1 :: q2 :: rs)) (resMk (q1 :: q2 :: rs)) (resX (q1 :: q2 :: rs) r) false =
            if (!Nat.blt d S.length || !Nat.blt site 1048576) = true then .fail else .ret (.val (resTy (q1 :: q2 :: rs)) (resX (q1 :: q2 :: rs) r), S) := by
          intro A S; simp only [layT, hs, if_true, Bool.false_eq_true, if_false]
        simp only [e2, hl]
        by_cases hc : (!Nat.blt d S.length || !Nat.blt site 1048576) = true
        · simp only [if_pos hc]; exact SameWay.fail
        · simp only [if_neg hc]; exact SameWay.ret
    · exact SameWay.fail
theorem callQuiet {A A' : Asks} {S S' : Rts} (hl : S'.length = S.length) {d : Option Nat} {site : Nat} {g : FuncId} {avs : List AV} (hq : quietSig (C.sig g) = true) (hr : RAgree (rootsAll avs) S S') :
    SameWay (callT C D A S d site g avs) (callT C D A' S' d site g avs) S S' := by
  unfold quietSig at hq
  simp only [Bool.and_eq_true] at hq
  unfold callT
  rw [argOwn_plain (S := S) (S' := S') _ _ hq.1]
  cases h1 : argOwn S (C.sig g).params avs with
  | none => exact SameWay.fail
  | some z =>
    obtain ⟨gd, S1⟩ := z
    obtain rfl := argOwn_id hq.1 h1
    simp only [Option.map_some]
    rw [argLend_plain (S := S1) (S' := S') _ _ hq.1]
    cases h2 : argLend S1 (C.sig g).params avs with
    | none => exact SameWay.fail
    | some z =>
      obtain ⟨od, S2⟩ := z
      obtain rfl := argLend_id hq.1 h2
      simp only [Option.map_some]
      rw [argDen_local _ _ _ _ hr]
      cases h3 : argDen S2 (C.sig g).params avs gd od with
      | none => exact SameWay.fail
      | some aa =>
        simp only
        split
        · refine SameWay.call fun r => ?_
          have hn : (C.sig g).params.all (fun k => !k.lends) = true := by
            rw [List.all_eq_true] at hq ⊢
            intro k hk
            have := hq.1 k hk
            cases k <;> simp_all [PK.plain, PK.lends]
          simp only [hn, if_true]
          exact layResStill hl _ _ hq.2
        · exact SameWay.fail
theorem quiet_way {A A' : Asks} {ρ : Operand → AV} {S S' : Rts} {site : Nat} {hint : Bool} {o : Oper} (hl : S'.length = S.length) (hw : wrOf C ρ o = none)
    (hr : RAgree (if blindOp o then [] else rootsAll (o.op.operands.toList.map ρ)) S S') : SameWay (opT C D A ρ S site hint o) (opT C D A' ρ S' site hint o) S S' := by
  have ha : ∀ {x : Operand}, blindOp o = false → x ∈ o.op.operands → RAgree (ρ x).roots S S' := by
    intro x hb hx
    rw [hb] at hr
    exact hr.sub fun r h => mem_rootsAll (List.mem_map.2 ⟨x, by simpa using hx, rfl⟩) r h
  cases ho : o.op with
  | move x => simp only [opT, ho]; exact SameWay.ret
  | pick c a b =>
    simp only [opT, ho]
    split
    · exact SameWay.br SameWay.ret SameWay.ret
    · exact SameWay.fail
  | unOp op t x =>
    simp only [opT, ho]
    split
    · exact SameWay.ret
    · exact SameWay.ret
    · exact SameWay.fail
  | field t x f =>
    simp only [opT, ho]
    split
    · split
      · split
        · exact SameWay.ret
        · exact SameWay.fail
      · exact SameWay.fail
    · exact SameWay.fail
  | extract x i => simp only [opT, ho]; exact SameWay.ofMap (f := fun v => v)
  | makeFunc f first caps =>
    cases f with
    | func f =>
      simp only [opT, ho]
      split
      · exact SameWay.ret
      · exact SameWay.fail
    | _ => simp only [opT, ho]; exact SameWay.fail
  | load t x =>
    have := ha (x := x) (by unfold blindOp; rw [ho]) (by rw [ho]; simp [Op.operands])
    simp only [opT, ho]
    rw [loadAV_local _ _ this]
    split
    · exact SameWay.ofMap (f := fun v => v)
    · exact SameWay.fail
  | nilCheck x =>
    have := ha (x := x) (by unfold blindOp; rw [ho]) (by rw [ho]; simp [Op.operands])
    simp only [opT, ho]
    cases hv : ρ x with
    | addr r p =>
      rw [hv] at this
      simp only
      rw [focus_local this (by simp [AV.roots])]
      cases S.focus r p with
      | none => exact SameWay.fail
      | some d => exact SameWay.ret
    | raddr t y => exact SameWay.ret
    | clo f c => exact SameWay.ret
    | _ => exact SameWay.fail
  | fieldAddr s x f =>
    have := ha (x := x) (by unfold blindOp; rw [ho]) (by rw [ho]; simp [Op.operands])
    simp only [opT, ho]
    rw [fieldAddr_local _ _ _ this]
    exact SameWay.ofMap (f := fun v => v)
  | indexAddr t x i =>
    have := ha (x := x) (by unfold blindOp; rw [ho]) (by rw [ho]; simp [Op.operands])
    simp only [opT, ho]
    rw [indexT_local _ _ _ this]
    split
    · exact SameWay.br SameWay.ret SameWay.fail
    · exact SameWay.fail
  | index t x i =>
    simp only [opT, ho]
    split
    · exact SameWay.br SameWay.ret SameWay.fail
    · exact SameWay.fail
  | convert s d x =>
    have := ha (x := x) (by unfold blindOp; rw [ho]) (by rw [ho]; simp [Op.operands])
    simp only [opT, ho]
    split
    · exact SameWay.ret
    · exact SameWay.ret
    · rw [rd_local _ _ this]
      split
      · exact SameWay.ret
      · exact SameWay.fail
    · exact SameWay.fail
  | binOp op t x y t2 =>
    have := ha (x := x) (by unfold blindOp; rw [ho]) (by rw [ho]; simp [Op.operands])
    simp only [opT, ho]
    rw [lenSl_local _ this]
    split
    · split
      · exact SameWay.nil (f := fun b => .val .bool b)
      · exact SameWay.nil (f := fun b => .val .bool b)
      · exact SameWay.fail
    · split
      · exact SameWay.ret
      · exact SameWay.br SameWay.ret SameWay.fail
      · exact SameWay.br SameWay.fail SameWay.ret
      · exact SameWay.fail
  | assign x =>
    simp only [wrOf, ho] at hw
    simp only [opT, ho]
    cases hv : ρ x with
    | brw r p s => rw [hv] at hw; simp at hw
    | pair a b => rw [hv] at hw; simp at hw
    | _ => exact SameWay.ret
  | call c =>
    have hb : blindOp o = false := by unfold blindOp; rw [ho]
    cases hc : c.callee with
    | builtin b =>
      cases b with
      | len =>
        simp only [opT, ho, hc]
        split
        · exact SameWay.ret
        · rename_i x _ _ _ hargs _
          obtain ⟨u, hu1, hu2⟩ : ∃ u, u ∈ c.args.toList ∧ ρ u = x := by
            have : x ∈ c.args.toList.map ρ := by rw [hargs]; simp
            simpa using this
          have := ha (x := u) hb (by rw [ho]; simp only [Op.operands, Call.operands, Array.mem_append]; right; simpa using hu1)
          rw [hu2] at this
          rw [lenSl_local _ this]
          exact SameWay.ofMap (f := fun n => .val (.int .i64) n)
        all_goals first | (exfalso; contradiction) | exact SameWay.fail
      | min =>
        simp only [opT, ho, hc]
        split
        all_goals first
          | (exfalso; contradiction)
          | exact SameWay.fail
          | (split
             · split
               · exact SameWay.ret
               · exact SameWay.fail
             · exact SameWay.fail)
      | max =>
        simp only [opT, ho, hc]
        split
        all_goals first
          | (exfalso; contradiction)
          | exact SameWay.fail
          | (split
             · split
               · exact SameWay.ret
               · exact SameWay.fail
             · exact SameWay.fail)
      | _ => simp [wrOf, ho, hc] at hw
    | value f =>
      have hf := ha (x := f) hb (by rw [ho]; simp [Op.operands, Call.operands, hc])
      have hargs : RAgree (rootsAll (c.args.toList.map ρ)) S S' := by
        intro r hr'
        have key : ∀ (l : List Operand), (∀ x ∈ l, RAgree (ρ x).roots S S') → r ∈ rootsAll (l.map ρ) → S'.root r = S.root r := by
          intro l
          induction l with
          | nil => intro _ h; simp [rootsAll] at h
          | cons x l ih =>
            intro hx h
            simp only [List.map_cons, rootsAll, List.mem_append] at h
            rcases h with h | h
            · exact hx x List.mem_cons_self r h
            · exact ih (fun y hy => hx y (List.mem_cons_of_mem _ hy)) h
        exact key c.args.toList (fun x hx => ha hb (by rw [ho]; simp only [Op.operands, Call.operands, Array.mem_append]; right; simpa using hx)) hr'
      simp only [opT, ho, hc]
      simp only [wrOf, ho, hc] at hw
      cases hv : ρ f with
      | clo g caps =>
        rw [hv] at hw hf
        simp only at hw ⊢
        split at hw
        · rename_i hq
          refine callQuiet hl hq ?_
          intro r hr'
          rcases (rootsAll_append _ _ r).1 hr' with h | h
          · exact hargs r h
          · exact hf r (by simp only [AV.roots]; exact avList_roots _ r h)
        · simp at hw
      | cloV cl =>
        simp only
        rw [rdAll_local _ _ hargs]
        split
        · split
          · exact SameWay.call fun x => SameWay.ret
          · exact SameWay.fail
        · exact SameWay.fail
      | _ => exact SameWay.fail
    | invoke r m => simp only [opT, ho, hc]; exact SameWay.fail
  | _ => simp [wrOf, ho] at hw
end
end Go.V

namespace Go.V
open Go
structure Frm (W : List Nat) (S S' : Rts) : Prop where
  len : S'.length = S.length
  root : ∀ r, r ∉ W → S'.root r = S.root r
theorem Frm.refl (W : List Nat) (S : Rts) : Frm W S S := ⟨rfl, fun _ _ => rfl⟩
theorem Frm.trans {W : List Nat} {a b c : Rts} (h : Frm W a b) (k : Frm W b c) : Frm W a c := ⟨k.len.trans h.len, fun r hr => (k.root r hr).trans (h.root r hr)⟩
theorem Frm.mono {W W' : List Nat} {a b : Rts} (h : Frm W a b) (hs : ∀ r ∈ W, r ∈ W') : Frm W' a b := ⟨h.len, fun r hr => h.root r fun hh => hr (hs r hh)⟩
theorem Frm.set (S : Rts) (q : Nat) (x : Option Root) : Frm [q] S (S.setRoot q x) := by
  refine ⟨by simp [Rts.setRoot], fun r hr => ?_⟩
  simp only [List.mem_singleton] at hr
  simp only [Rts.root, Rts.setRoot, List.getD, List.getElem?_set]
  rw [if_neg (fun h => hr h.symm)]
theorem tk_frm : ∀ (t : Ty) (a : AV) {S S' : Rts} {m : Mk} {x : t.den}, tk S t a = some (m, x, S') → Frm a.roots S S'
  | t, .val t' y, S, S', m, x, h => by
    have : (castTo t' t y).bind (fun x => some (Mk.no, x, S)) = some (m, x, S') := by cases t <;> simpa only [tk] using h
    simp only [Option.bind_eq_some_iff, Option.some.injEq, Prod.mk.injEq] at this
    obtain ⟨_, _, _, _, rfl⟩ := this
    exact Frm.refl _ _
  | t, .litB b, S, S', m, x, h => by
    cases t <;> simp [tk] at h
    obtain ⟨_, _, rfl⟩ := h
    exact Frm.refl _ _
  | t, .unit, S, S', m, x, h => by
    cases t <;> simp [tk] at h
    obtain ⟨_, rfl⟩ := h
    exact Frm.refl _ _
  | t, .nils, S, S', m, x, h => by
    cases t <;> simp [tk] at h
    obtain ⟨_, _, rfl⟩ := h
    exact Frm.refl _ _
  | t, .brw r p s, S, S', m, x, h => by
    cases t with
    | sl e =>
      simp only [tk] at h
      split at h
      · split at h
        · split at h
          · simp only [Option.bind_eq_some_iff, Option.some.injEq, Prod.mk.injEq] at h
            obtain ⟨_, _, _, _, _, _, rfl⟩ := h
            exact Frm.set _ _ _
          · simp at h
        · simp at h
      · simp at h
    | _ => simp [tk] at h
  | t, .pair u v, S, S', m, x, h => by
    cases t with
    | pair a b =>
      simp only [tk, Option.bind_eq_some_iff, Option.some.injEq, Prod.mk.injEq] at h
      obtain ⟨⟨m1, x1, S1⟩, h1, ⟨m2, x2, S2⟩, h2, _, _, rfl⟩ := h
      exact ((tk_frm a u h1).mono fun r hr => by simp [AV.roots, hr]).trans ((tk_frm b v h2).mono fun r hr => by simp [AV.roots, hr])
    | _ => simp [tk] at h
  | t, .undef, S, S', m, x, h => by cases t <;> simp [tk] at h
  | t, .skip, S, S', m, x, h => by cases t <;> simp [tk] at h
  | t, .view _ _ _ _ _, S, S', m, x, h => by cases t <;> simp [tk] at h
  | t, .addr _ _, S, S', m, x, h => by cases t <;> simp [tk] at h
  | t, .raddr _ _, S, S', m, x, h => by cases t <;> simp [tk] at h
  | t, .tup _, S, S', m, x, h => by cases t <;> simp [tk] at h
  | t, .clo _ _, S, S', m, x, h => by cases t <;> simp [tk] at h
  | t, .cloV _, S, S', m, x, h => by cases t <;> simp [tk] at h
theorem tkS_frm (t : Ty) (a : AV) {S S' : Rts} {hint : Bool} {m : Mk} {x : t.den} (h : tkS S hint t a = some (m, x, S')) : Frm a.roots S S' := by
  simp only [tkS, Option.bind_eq_some_iff] at h
  obtain ⟨⟨m1, x1, S1⟩, h1, h⟩ := h
  split at h
  · split at h
    · simp only [Option.some.injEq, Prod.mk.injEq] at h
      obtain ⟨rfl, rfl, rfl⟩ := h
      exact tk_frm t a h1
    · simp at h
  · simp only [Option.some.injEq, Prod.mk.injEq] at h
    obtain ⟨rfl, rfl, rfl⟩ := h
    exact tk_frm t a h1
theorem lay_frm {A : Asks} {S S' : Rts} {d : Option Nat} {site : Nat} {t : Ty} {m : Mk} {x : t.den} {mem : Bool} {β : Bool} {v : AV} (h : (layT A S d site t m x mem).dec β = some (v, S')) : Frm d.toList S S' := by
  cases d with
  | none =>
    simp only [layT, Tr.dec, Option.some.injEq, Prod.mk.injEq] at h
    rw [← h.2]; exact Frm.refl _ _
  | some d =>
    simp only [layT] at h
    split at h
    · simp [Tr.dec] at h
    · split at h
      · split at h
        · simp only [Tr.dec, Option.some.injEq, Prod.mk.injEq] at h
          rw [← h.2]; exact Frm.set _ _ _
        · simp [Tr.dec] at h
      · split at h
        · simp only [Tr.dec, Option.some.injEq, Prod.mk.injEq] at h
          rw [← h.2]; exact Frm.refl _ _
        · split at h
          · simp only [Tr.dec, Option.some.injEq, Prod.mk.injEq] at h
            rw [← h.2]; exact Frm.set _ _ _
          · simp [Tr.dec] at h
theorem build_frm {T : Ty} : ∀ (l : List (Nat × AV)) (acc : Mk × T.den) {S S' : Rts} {m : Mk} {x : T.den}, buildParts S T acc l = some (m, x, S') → Frm (rootsAll (l.map (·.2))) S S'
  | [], acc, S, S', m, x, h => by
    simp only [buildParts, Option.some.injEq, Prod.mk.injEq] at h
    obtain ⟨_, _, rfl⟩ := h
    exact Frm.refl _ _
  | (i, v) :: l, acc, S, S', m, x, h => by
    simp only [buildParts, Option.bind_eq_some_iff] at h
    obtain ⟨d, _, ⟨m1, x1, S1⟩, h1, r, _, h2⟩ := h
    exact ((tk_frm _ v h1).mono fun r hr => by simp [rootsAll, hr]).trans ((build_frm l _ h2).mono fun r hr => by simp [rootsAll, hr])
theorem row_frm {e : Ty} : ∀ (l : List (Nat × AV)) (acc : Mk × List e.den) {S S' : Rts} {m : Mk} {x : List e.den}, rowParts S e acc l = some (m, x, S') → Frm (rootsAll (l.map (·.2))) S S'
  | [], acc, S, S', m, x, h => by
    simp only [rowParts, Option.some.injEq, Prod.mk.injEq] at h
    obtain ⟨_, _, rfl⟩ := h
    exact Frm.refl _ _
  | (i, v) :: l, acc, S, S', m, x, h => by
    simp only [rowParts] at h
    split at h
    · simp only [Option.bind_eq_some_iff] at h
      obtain ⟨⟨m1, x1, S1⟩, h1, h2⟩ := h
      exact ((tk_frm _ v h1).mono fun r hr => by simp [rootsAll, hr]).trans ((row_frm l _ h2).mono fun r hr => by simp [rootsAll, hr])
    · simp at h
theorem own_frm : ∀ (ks : List PK) (avs : List AV) {S S' : Rts} {g : GDen ks}, argOwn S ks avs = some (g, S') → Frm (callWr ks avs) S S'
  | [], [], S, S', g, h => by
    simp only [argOwn, Option.some.injEq, Prod.mk.injEq] at h
    rw [h.2]; exact Frm.refl _ _
  | [], _ :: _, S, S', g, h => by simp [argOwn] at h
  | k :: ks, [], S, S', g, h => by cases k <;> simp [argOwn] at h
  | k :: ks, a :: avs, S, S', g, h => by
    have hsub : ∀ r ∈ callWr ks avs, r ∈ callWr (k :: ks) (a :: avs) := by intro r hr; simp only [callWr]; split <;> simp [hr]
    cases k with
    | own t m =>
      simp only [argOwn, Option.bind_eq_some_iff] at h
      obtain ⟨⟨m1, x1, S1⟩, h1, h⟩ := h
      split at h
      · simp only [Option.bind_eq_some_iff, Option.some.injEq, Prod.mk.injEq] at h
        obtain ⟨⟨g2, S2⟩, h2, _, rfl⟩ := h
        exact ((tk_frm _ a h1).mono fun r hr => by simp [callWr, PK.plain, hr]).trans ((own_frm ks avs h2).mono hsub)
      · simp at h
    | val t => exact (own_frm ks avs (by simpa only [argOwn] using h)).mono hsub
    | mutp t m m' => exact (own_frm ks avs (by simpa only [argOwn] using h)).mono hsub
    | mutv t m m' => exact (own_frm ks avs (by simpa only [argOwn] using h)).mono hsub
    | rptr t => exact (own_frm ks avs (by simpa only [argOwn] using h)).mono hsub
    | fn => exact (own_frm ks avs (by simpa only [argOwn] using h)).mono hsub
theorem place_roots : ∀ (a : AV) {r : Nat} {p : Path}, placeOf a = some (r, p) → r ∈ a.roots
  | .brw r' p' s, r, p, h => by simp only [placeOf, Option.some.injEq, Prod.mk.injEq] at h; simp [AV.roots, h.1]
  | .pair a b, r, p, h => by
    simp only [placeOf] at h
    simp only [AV.roots, List.mem_append]
    split at h
    · rename_i r1 p1 h1
      simp only [Option.some.injEq, Prod.mk.injEq] at h
      obtain ⟨rfl, _⟩ := h
      exact .inl (place_roots a h1)
    · split at h
      · rename_i r1 p1 h1
        simp only [Option.some.injEq, Prod.mk.injEq] at h
        obtain ⟨rfl, _⟩ := h
        exact .inr (place_roots b h1)
      · simp at h
  | .undef, _, _, h => by simp [placeOf] at h
  | .skip, _, _, h => by simp [placeOf] at h
  | .litB _, _, _, h => by simp [placeOf] at h
  | .unit, _, _, h => by simp [placeOf] at h
  | .nils, _, _, h => by simp [placeOf] at h
  | .val _ _, _, _, h => by simp [placeOf] at h
  | .view _ _ _ _ _, _, _, h => by simp [placeOf] at h
  | .addr _ _, _, _, h => by simp [placeOf] at h
  | .raddr _ _, _, _, h => by simp [placeOf] at h
  | .tup _, _, _, h => by simp [placeOf] at h
  | .clo _ _, _, _, h => by simp [placeOf] at h
  | .cloV _, _, _, h => by simp [placeOf] at h
theorem back_frm {S S' : Rts} {site : Nat} {t : Ty} {a : AV} {m : Mk} {o : t.den} (h : backAV S site t a m o = some S') : Frm a.roots S S' := by
  unfold backAV at h
  split at h
  · simp only [Option.some.injEq] at h; rw [h]; exact Frm.refl _ _
  · rename_i r p hp
    split at h
    · simp only [Option.bind_eq_some_iff] at h
      obtain ⟨d, _, h⟩ := h
      split at h
      · simp only [Option.bind_eq_some_iff] at h
        obtain ⟨y, _, h⟩ := h
        split at h
        · simp at h
        · simp only [Option.bind_eq_some_iff, Option.some.injEq] at h
          obtain ⟨_, _, rfl⟩ := h
          exact (Frm.set _ _ _).mono fun r' hr => by simp only [List.mem_singleton] at hr; subst hr; exact place_roots a hp
      · simp at h
    · simp at h
theorem out_frm {site : Nat} : ∀ (ks : List PK) (avs : List AV) (o : ODen ks) {S S' : Rts}, outDen S site ks avs o = some S' → Frm (callWr ks avs) S S'
  | [], [], o, S, S', h => by
    simp only [outDen, Option.some.injEq] at h
    rw [h]; exact Frm.refl _ _
  | [], _ :: _, o, S, S', h => by simp [outDen] at h
  | k :: ks, [], o, S, S', h => by cases k <;> simp [outDen] at h
  | k :: ks, a :: avs, o, S, S', h => by
    have hsub : ∀ r ∈ callWr ks avs, r ∈ callWr (k :: ks) (a :: avs) := by intro r hr; simp only [callWr]; split <;> simp [hr]
    cases k with
    | mutp t m m' =>
      cases a with
      | addr q p =>
        cases p with
        | nil =>
          simp only [outDen] at h
          split at h
          · exact ((Frm.set _ _ _).mono fun r hr => by simp only [List.mem_singleton] at hr; subst hr; simp [callWr, PK.plain, AV.roots]).trans ((out_frm ks avs o.2 h).mono hsub)
          · simp at h
        | cons _ _ => simp [outDen] at h
      | _ => simp [outDen] at h
    | mutv t m m' =>
      simp only [outDen, Option.bind_eq_some_iff] at h
      obtain ⟨S1, h1, h2⟩ := h
      exact ((back_frm h1).mono fun r hr => by simp [callWr, PK.plain, hr]).trans ((out_frm ks avs o.2 h2).mono hsub)
    | val t => exact (out_frm ks avs o (by simpa only [outDen] using h)).mono hsub
    | own t m => exact (out_frm ks avs o (by simpa only [outDen] using h)).mono hsub
    | rptr t => exact (out_frm ks avs o (by simpa only [outDen] using h)).mono hsub
    | fn => exact (out_frm ks avs o (by simpa only [outDen] using h)).mono hsub
theorem res_frm {A : Asks} {S S' : Rts} {d : Option Nat} {site : Nat} : ∀ (rs : List RK) (r : RDen rs) {β : Bool} {v : AV}, (layRes A S d site rs r).dec β = some (v, S') → Frm d.toList S S'
  | [], r, β, v, h => by
    simp only [layRes, Tr.dec, Option.some.injEq, Prod.mk.injEq] at h
    rw [← h.2]; exact Frm.refl _ _
  | [.val t m], r, β, v, h => by
    simp only [layRes] at h
    split at h
    · exact lay_frm h
    · simp [Tr.dec] at h
  | [.ptr t m], r, β, v, h => by
    simp only [layRes] at h
    split at h
    · exact lay_frm h
    · simp [Tr.dec] at h
  | q1 :: q2 :: rs, r, β, v, h => by
    have h' : (layMany A S d site (q1 :: q2 :: rs) r).dec β = some (v, S') := by cases q1 <;> simpa only [layRes] using h
    unfold layMany at h'
    split at h'
    · cases d with
      | none =>
        simp only [Tr.dec, Option.some.injEq, Prod.mk.injEq] at h'
        rw [← h'.2]; exact Frm.refl _ _
      | some d =>
        simp only at h'
        cases hl : layT A S (some d) site (resTy (q1 :: q2 :: rs)) (resMk (q1 :: q2 :: rs)) (resX (q1 :: q2 :: rs) r) false with
        | ret z =>
          obtain ⟨v1, S1⟩ := z
          rw [hl] at h'
          simp only [Tr.dec, Option.some.injEq, Prod.mk.injEq] at h'
          rw [← h'.2]
          exact lay_frm (β := true) (by rw [hl]; rfl)
        | _ => rw [hl] at h'; simp [Tr.dec] at h'
    · simp [Tr.dec] at h'
section
variable {C : Ctx} {D : Den C}
theorem call_frm {A : Asks} {S S' : Rts} {d : Option Nat} {site : Nat} {g : FuncId} {avs : List AV} {β : Bool} {v : AV} (h : (callT C D A S d site g avs).dec β = some (v, S')) : Frm (d.toList ++ callWr (C.sig g).params avs) S S' := by
  unfold callT at h
  split at h
  · simp [Tr.dec] at h
  · rename_i gd S1 h1
    split at h
    · simp [Tr.dec] at h
    · rename_i od S2 h2
      split at h
      · simp [Tr.dec] at h
      · split at h
        · simp only [Tr.dec, Option.bind_eq_some_iff] at h
          obtain ⟨r, _, h⟩ := h
          have f1 : Frm (d.toList ++ callWr (C.sig g).params avs) S S1 := (own_frm _ _ h1).mono fun r hr => by simp [hr]
          split at h
          · exact f1.trans ((res_frm _ _ h).mono fun r hr => by simp [hr])
          · split at h
            · cases hlo : lendsOk (C.sig g).params avs with
              | false => rw [hlo] at h; simp [Tr.dec] at h
              | true =>
              rw [hlo] at h
              simp only [Tr.dec] at h
              split at h
              · simp [Tr.dec] at h
              · rename_i S3 h3
                exact f1.trans (((out_frm _ _ _ h3).mono fun r hr => by simp [hr]).trans ((res_frm _ _ h).mono fun r hr => by simp [hr]))
            · simp [Tr.dec] at h
        · simp [Tr.dec] at h
theorem share_frm {A : Asks} {S S' : Rts} {d : Option Nat} {site : Nat} {hint : Bool} {u : AV} {β : Bool} {v : AV} (h : (shareT A S d site hint u).dec β = some (v, S')) : Frm (d.toList ++ u.roots) S S' := by
  unfold shareT at h
  split at h
  · split at h
    · rename_i m y S1 h1
      have f1 : Frm (d.toList ++ u.roots) S S1 := (tk_frm _ _ h1).mono fun r hr => by simp [hr]
      split at h
      · split at h
        · simp only [Tr.dec, Option.some.injEq, Prod.mk.injEq] at h
          rw [← h.2]; exact f1
        · simp [Tr.dec] at h
      · exact f1.trans ((lay_frm h).mono fun r hr => by simp [hr])
    · simp [Tr.dec] at h
  · simp [Tr.dec] at h
theorem parts_roots {ρ : Operand → AV} (ps : Array (Nat × Operand)) : rootsAll ((ps.toList.map fun p => (p.1, ρ p.2)).map (·.2)) = rootsAll ((ps.toList.map (·.2)).map ρ) := by
  simp only [List.map_map]; rfl
theorem heavy_frm {A : Asks} {ρ : Operand → AV} {S S' : Rts} {site : Nat} {hint : Bool} {o : Oper} {W : List Nat} (hw : wrOf C ρ o = some W) {β : Bool} {v : AV}
    (h : (opT C D A ρ S site hint o).dec β = some (v, S')) : Frm W S S' := by
  have hin : ∀ {x : Operand}, x ∈ o.op.operands → ∀ r ∈ (ρ x).roots, r ∈ rootsAll (o.op.operands.toList.map ρ) := fun hx r hr => mem_rootsAll (List.mem_map.2 ⟨_, by simpa using hx, rfl⟩) r hr
  cases ho : o.op with
  | assign x =>
    simp only [wrOf, ho] at hw
    simp only [opT, ho] at h
    have hx := hin (x := x) (by rw [ho]; simp [Op.operands])
    rw [ho] at hx
    cases hv : ρ x with
    | brw r p s =>
      rw [hv] at hw h hx
      simp only [Option.some.injEq] at hw
      subst hw
      simp only at h
      split at h
      · simp only [Tr.dec, Option.some.injEq, Prod.mk.injEq] at h
        rw [← h.2]; exact Frm.refl _ _
      · exact (share_frm h).mono fun r hr => by rcases List.mem_append.1 hr with h | h; exact List.mem_append.2 (.inl h); exact List.mem_append.2 (.inr (hx r h))
    | pair a b =>
      rw [hv] at hw h hx
      simp only [Option.some.injEq] at hw
      subst hw
      exact (share_frm h).mono fun r hr => by rcases List.mem_append.1 hr with h | h; exact List.mem_append.2 (.inl h); exact List.mem_append.2 (.inr (hx r h))
    | _ => rw [hv] at hw; simp at hw
  | alloc t =>
    simp only [wrOf, ho, Option.some.injEq] at hw
    subst hw
    simp only [opT, ho] at h
    split at h
    · exact (lay_frm h).mono fun r hr => by simp [hr]
    · simp [Tr.dec] at h
  | box t x =>
    simp only [wrOf, ho, Option.some.injEq] at hw
    subst hw
    have hx := hin (x := x) (by rw [ho]; simp [Op.operands])
    rw [ho] at hx
    simp only [opT, ho] at h
    split at h
    · split at h
      · rename_i m y S1 h1
        have f1 := (tk_frm _ _ h1).mono (W' := o.dst.toList ++ rootsAll ((Op.box t x).operands.toList.map ρ)) fun r hr => List.mem_append.2 (.inr (hx r hr))
        split at h
        · split at h
          · exact f1.trans ((lay_frm h).mono fun r hr => by simp [hr])
          · simp [Tr.dec] at h
        · exact f1.trans ((lay_frm h).mono fun r hr => by simp [hr])
      · simp [Tr.dec] at h
    · simp [Tr.dec] at h
  | build t ps =>
    simp only [wrOf, ho, Option.some.injEq] at hw
    subst hw
    simp only [opT, ho] at h
    split at h
    · split at h
      · rename_i m y S1 h1
        have f1 := (build_frm _ _ h1).mono (W' := o.dst.toList ++ rootsAll ((Op.build t ps).operands.toList.map ρ)) fun r hr => by
          rw [parts_roots] at hr
          exact List.mem_append.2 (.inr (by simpa [Op.operands] using hr))
        exact f1.trans ((lay_frm h).mono fun r hr => by simp [hr])
      · simp [Tr.dec] at h
    · simp [Tr.dec] at h
  | buildSlice t n ps =>
    simp only [wrOf, ho, Option.some.injEq] at hw
    subst hw
    simp only [opT, ho] at h
    split at h
    · split at h
      · rename_i m y S1 h1
        have f1 := (row_frm _ _ h1).mono (W' := o.dst.toList ++ rootsAll ((Op.buildSlice t n ps).operands.toList.map ρ)) fun r hr => by
          rw [parts_roots] at hr
          exact List.mem_append.2 (.inr (by simpa [Op.operands] using hr))
        split at h
        · split at h
          · split at h
            · simp only [Tr.dec, Option.some.injEq, Prod.mk.injEq] at h
              rw [← h.2]; exact f1
            · simp [Tr.dec] at h
          · exact f1.trans ((lay_frm h).mono fun r hr => by simp [hr])
        · simp [Tr.dec] at h
      · simp [Tr.dec] at h
    · simp [Tr.dec] at h
  | store t x y =>
    simp only [wrOf, ho, Option.some.injEq] at hw
    subst hw
    have hx := hin (x := x) (by rw [ho]; simp [Op.operands])
    have hy := hin (x := y) (by rw [ho]; simp [Op.operands])
    rw [ho] at hx hy
    simp only [opT, ho] at h
    split at h
    · cases hs : storeAV S site hint (C.ty t) (ρ x) (ρ y) with
      | none => rw [hs] at h; simp [Tr.of, Tr.dec] at h
      | some S2 =>
        rw [hs] at h
        simp only [Option.map_some, Tr.of, Tr.dec, Option.some.injEq, Prod.mk.injEq] at h
        rw [← h.2]
        unfold storeAV at hs
        split at hs
        · rename_i r p hv
          simp only [Option.bind_eq_some_iff] at hs
          obtain ⟨⟨m, z, S1⟩, h1, hs⟩ := hs
          split at hs
          · simp only [Option.bind_eq_some_iff] at hs
            obtain ⟨dd, _, hs⟩ := hs
            split at hs
            · simp only [Option.bind_eq_some_iff, Option.some.injEq] at hs
              obtain ⟨_, _, rfl⟩ := hs
              refine ((tkS_frm _ _ h1).mono fun r hr => List.mem_append.2 (.inr (hy r hr))).trans ((Frm.set _ _ _).mono fun r' hr => ?_)
              simp only [List.mem_singleton] at hr
              subst hr
              exact List.mem_append.2 (.inr (hx _ (by rw [hv]; simp [AV.roots])))
            · simp at hs
          · simp at hs
        · simp at hs
    · simp [Tr.dec] at h
  | makeSlice t x y =>
    simp only [wrOf, ho, Option.some.injEq] at hw
    subst hw
    simp only [opT, ho] at h
    split at h
    · simp only [Tr.dec] at h
      split at h
      · exact (lay_frm h).mono fun r hr => by simp [hr]
      · simp at h
    · simp [Tr.dec] at h
  | slice t x lo hi mx =>
    simp only [wrOf, ho, Option.some.injEq] at hw
    subst hw
    have hx := hin (x := x) (by rw [ho]; simp [Op.operands])
    rw [ho] at hx
    cases mx with
    | some _ => simp only [opT, ho, Tr.dec] at h; simp at h
    | none =>
      simp only [opT, ho] at h
      unfold sliceT at h
      split at h
      · split at h
        · simp only [Tr.dec] at h
          split at h
          · simp only [Option.some.injEq, Prod.mk.injEq] at h; rw [← h.2]; exact Frm.refl _ _
          · simp at h
        · simp [Tr.dec] at h
      · split at h
        · split at h
          · simp only [Tr.dec] at h
            split at h
            · simp only [Option.some.injEq, Prod.mk.injEq] at h; rw [← h.2]; exact Frm.refl _ _
            · simp at h
          · simp [Tr.dec] at h
        · simp [Tr.dec] at h
      · rename_i r p s e hv hT
        split at h
        · split at h
          · rename_i m xs S2 h1
            have f1 := (tk_frm _ _ h1).mono (W' := o.dst.toList ++ rootsAll ((Op.slice t x lo hi none).operands.toList.map ρ)) fun r hr => List.mem_append.2 (.inr (hx r (by rw [hv]; exact hr)))
            split at h
            · split at h
              · simp only [Tr.dec] at h
                split at h
                · exact f1.trans ((lay_frm h).mono fun r hr => by simp [hr])
                · simp at h
              · simp [Tr.dec] at h
            · simp [Tr.dec] at h
          · simp [Tr.dec] at h
        · unfold viewT at h
          split at h
          · split at h
            · split at h
              · simp only [Tr.dec] at h
                split at h
                · simp only [Option.some.injEq, Prod.mk.injEq] at h; rw [← h.2]; exact Frm.refl _ _
                · simp at h
              · simp [Tr.dec] at h
            · simp [Tr.dec] at h
          · simp [Tr.dec] at h
      · simp [Tr.dec] at h
  | call c =>
    have hargs : ∀ (a : AV), a ∈ c.args.toList.map ρ → ∀ r ∈ a.roots, r ∈ rootsAll (o.op.operands.toList.map ρ) := by
      intro a ha r hr
      obtain ⟨x, hx, rfl⟩ := List.mem_map.1 ha
      exact hin (x := x) (by rw [ho]; simp only [Op.operands, Call.operands, Array.mem_append]; right; simpa using hx) r hr
    cases hc : c.callee with
    | builtin b =>
      cases b with
      | append =>
        simp only [wrOf, ho, hc, Option.some.injEq] at hw
        subst hw
        rw [ho] at hargs
        simp only [opT, ho, hc] at h
        split at h <;> try (first | (exfalso; contradiction) | (simp [Tr.dec] at h; done))
        rename_i x0 y0 e e' _ _ hmap _
        split at h
        · cases hint with
          | true =>
            simp only [if_true] at h
            have hx0 := hargs x0 (by rw [hmap]; simp)
            unfold nestT at h
            split at h
            · split at h
              · split at h
                · split at h
                  · split at h
                    · simp only [Tr.dec] at h
                      split at h
                      · simp only [Option.some.injEq, Prod.mk.injEq] at h
                        rw [← h.2]
                        exact (Frm.set _ _ _).mono fun r' hr => by
                          simp only [List.mem_singleton] at hr
                          subst hr
                          exact List.mem_append.2 (.inr (hx0 _ (by simp [AV.roots])))
                      · simp at h
                    · simp [Tr.dec] at h
                  · simp [Tr.dec] at h
                · simp [Tr.dec] at h
              · simp [Tr.dec] at h
            · simp [Tr.dec] at h
          | false =>
          simp only [Bool.false_eq_true, if_false] at h
          unfold appendT at h
          have hx0 := hargs x0 (by rw [hmap]; simp)
          have hy0 := hargs y0 (by rw [hmap]; simp)
          split at h
          · rename_i m xs S1 h1
            split at h
            · rename_i my ys S2 h2
              have f1 := ((tk_frm _ _ h1).mono (W' := o.dst.toList ++ rootsAll ((Op.call c).operands.toList.map ρ)) fun r hr => List.mem_append.2 (.inr (hx0 r hr))).trans
                ((tk_frm _ _ h2).mono fun r hr => List.mem_append.2 (.inr (hy0 r hr)))
              split at h
              · split at h
                · simp only [Tr.dec] at h
                  split at h
                  · exact f1.trans ((lay_frm h).mono fun r hr => by simp [hr])
                  · simp at h
                · simp [Tr.dec] at h
              · simp [Tr.dec] at h
            · simp [Tr.dec] at h
          · simp [Tr.dec] at h
        · simp [Tr.dec] at h
      | clear =>
        simp only [wrOf, ho, hc, Option.some.injEq] at hw
        subst hw
        rw [ho] at hargs
        simp only [opT, ho, hc] at h
        split at h <;> try (first | (exfalso; contradiction) | (simp [Tr.dec] at h; done))
        rename_i x0 e _ _ hmap _
        have hx0 := hargs x0 (by rw [hmap]; simp)
        unfold clearT at h
        split at h
        · split at h
          · split at h
            · split at h
              · split at h
                · simp only [Tr.dec] at h
                  split at h
                  · simp only [Option.some.injEq, Prod.mk.injEq] at h
                    rw [← h.2]
                    exact (Frm.set _ _ _).mono fun r' hr => by
                      simp only [List.mem_singleton] at hr
                      subst hr
                      exact List.mem_append.2 (.inr (hx0 _ (by simp [AV.roots])))
                  · simp only [Option.some.injEq, Prod.mk.injEq] at h; rw [← h.2]; exact Frm.refl _ _
                · simp [Tr.dec] at h
              · simp [Tr.dec] at h
            · simp [Tr.dec] at h
          · simp [Tr.dec] at h
        · simp [Tr.dec] at h
      | len => simp [wrOf, ho, hc] at hw
      | min => simp [wrOf, ho, hc] at hw
      | max => simp [wrOf, ho, hc] at hw
      | _ => simp only [opT, ho, hc, Tr.dec] at h; simp at h
    | value f =>
      simp only [wrOf, ho, hc] at hw
      simp only [opT, ho, hc] at h
      cases hv : ρ f with
      | clo g caps =>
        rw [hv] at hw h
        simp only at hw h
        split at hw
        · simp at hw
        · simp only [Option.some.injEq] at hw
          subst hw
          exact call_frm h
      | cloV cl => rw [hv] at hw; simp at hw
      | _ => rw [hv] at h; simp [Tr.dec] at h
    | invoke r m => simp only [opT, ho, hc, Tr.dec] at h; simp at h
  | _ => first | (simp [wrOf, ho] at hw; done) | (simp only [opT, ho, Tr.dec] at h; simp at h)
end
end Go.V


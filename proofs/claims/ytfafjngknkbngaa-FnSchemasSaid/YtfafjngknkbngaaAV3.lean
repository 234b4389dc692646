import Derived.Orders
import Derived.Test.YtfafjngknkbngaaProg
import Derived.Test.YtfafjngknkbngaaAV2
set_option linter.unusedVariables false
set_option linter.unusedSimpArgs false
set_option linter.unusedSectionVars false
namespace Go.V
open Go
theorem root_set (S : Rts) (q : Nat) (x : Option Root) (r : Nat) : (S.setRoot q x).root r = if r = q ∧ q < S.length then x else S.root r := by
  simp only [Rts.root, Rts.setRoot, List.getD, List.getElem?_set]
  by_cases h : q = r
  · subst h
    by_cases hl : q < S.length
    · simp [hl]
    · simp [hl]
  · rw [if_neg h, if_neg (fun k => h k.1.symm)]
theorem set_agree {F : List Nat} {S T : Rts} (hr : RAgree F S T) (hl : T.length = S.length) (q : Nat) (x : Option Root) : RAgree F (S.setRoot q x) (T.setRoot q x) := by
  intro r h
  rw [root_set, root_set, hl, hr r h]
def Lk {α : Type} (F : List Nat) (X Y : Option (α × Rts)) : Prop := ∀ a S', X = some (a, S') → ∃ T', Y = some (a, T') ∧ RAgree F S' T' ∧ T'.length = S'.length
theorem tk_lk {F : List Nat} : ∀ (t : Ty) (a : AV) {S T : Rts} {m : Mk} {x : t.den} {S' : Rts}, RAgree F S T → T.length = S.length → (∀ r ∈ a.roots, r ∈ F) → tk S t a = some (m, x, S') →
    ∃ T', tk T t a = some (m, x, T') ∧ RAgree F S' T' ∧ T'.length = S'.length
  | t, .val t' y, S, T, m, x, S', hr, hl, hF, h => by
    have e : ∀ S : Rts, tk S t (.val t' y) = (castTo t' t y).bind (fun x => some (Mk.no, x, S)) := by intro S; cases t <;> simp only [tk]
    rw [e] at h
    simp only [Option.bind_eq_some_iff, Option.some.injEq, Prod.mk.injEq] at h
    obtain ⟨z, hz, rfl, rfl, rfl⟩ := h
    exact ⟨T, by rw [e, hz]; rfl, hr, hl⟩
  | t, .litB b, S, T, m, x, S', hr, hl, hF, h => by
    cases t <;> simp [tk] at h
    obtain ⟨rfl, rfl, rfl⟩ := h
    exact ⟨T, by simp [tk], hr, hl⟩
  | t, .unit, S, T, m, x, S', hr, hl, hF, h => by
    cases t <;> simp [tk] at h
    obtain ⟨rfl, rfl⟩ := h
    exact ⟨T, by simp [tk], hr, hl⟩
  | t, .nils, S, T, m, x, S', hr, hl, hF, h => by
    cases t <;> simp [tk] at h
    obtain ⟨rfl, rfl, rfl⟩ := h
    exact ⟨T, by simp [tk], hr, hl⟩
  | t, .brw r p s, S, T, m, x, S', hr, hl, hF, h => by
    cases t with
    | sl e =>
      have hroot := hr r (hF r (by simp [AV.roots]))
      simp only [tk] at h ⊢
      rw [hroot]
      cases hR : S.root r with
      | none => rw [hR] at h; simp at h
      | some R =>
        rw [hR] at h
        simp only at h ⊢
        cases hf : V.focus R.ty R.ms R.x p with
        | none => rw [hf] at h; simp at h
        | some d =>
          obtain ⟨dt, dm, dx⟩ := d
          rw [hf] at h
          cases dt with
          | sl t2 =>
            cases dm with
            | own s' m2 =>
              simp only at h ⊢
              by_cases hs : s = s'
              · rw [if_pos hs] at h ⊢
                simp only [Option.bind_eq_some_iff, Option.some.injEq, Prod.mk.injEq] at h ⊢
                obtain ⟨z, hz, m', hm', rfl, rfl, rfl⟩ := h
                exact ⟨_, ⟨z, hz, m', hm', rfl, rfl, rfl⟩, set_agree hr hl _ _, by simp [Rts.setRoot, hl]⟩
              · rw [if_neg hs] at h; simp at h
            | _ => simp at h
          | _ => simp at h
    | _ => simp [tk] at h
  | t, .pair u v, S, T, m, x, S', hr, hl, hF, h => by
    cases t with
    | pair a b =>
      simp only [tk, Option.bind_eq_some_iff, Option.some.injEq, Prod.mk.injEq] at h
      obtain ⟨⟨m1, x1, S1⟩, h1, ⟨m2, x2, S2⟩, h2, rfl, rfl, rfl⟩ := h
      obtain ⟨T1, k1, k2, k3⟩ := tk_lk a u hr hl (fun r h => hF r (by simp [AV.roots, h])) h1
      obtain ⟨T2, q1, q2, q3⟩ := tk_lk b v k2 k3 (fun r h => hF r (by simp [AV.roots, h])) h2
      exact ⟨T2, by simp only [tk, k1, Option.bind_some, q1], q2, q3⟩
    | _ => simp [tk] at h
  | t, .undef, S, T, m, x, S', hr, hl, hF, h => by cases t <;> simp [tk] at h
  | t, .skip, S, T, m, x, S', hr, hl, hF, h => by cases t <;> simp [tk] at h
  | t, .view _ _ _ _ _, S, T, m, x, S', hr, hl, hF, h => by cases t <;> simp [tk] at h
  | t, .addr _ _, S, T, m, x, S', hr, hl, hF, h => by cases t <;> simp [tk] at h
  | t, .raddr _ _, S, T, m, x, S', hr, hl, hF, h => by cases t <;> simp [tk] at h
  | t, .tup _, S, T, m, x, S', hr, hl, hF, h => by cases t <;> simp [tk] at h
  | t, .clo _ _, S, T, m, x, S', hr, hl, hF, h => by cases t <;> simp [tk] at h
  | t, .cloV _, S, T, m, x, S', hr, hl, hF, h => by cases t <;> simp [tk] at h
theorem lay_lk {F : List Nat} {A : Asks} {S T : Rts} (hr : RAgree F S T) (hl : T.length = S.length) {d : Option Nat} {site : Nat} {t : Ty} {m : Mk} {x : t.den} {mem : Bool} {β : Bool} :
    Lk F ((layT A S d site t m x mem).dec β) ((layT A T d site t m x mem).dec β) := by
  intro v S' h
  cases d with
  | none =>
    simp only [layT, Tr.dec, Option.some.injEq, Prod.mk.injEq] at h ⊢
    obtain ⟨rfl, rfl⟩ := h
    exact ⟨T, ⟨rfl, rfl⟩, hr, hl⟩
  | some d =>
    simp only [layT, hl] at h ⊢
    split at h
    · simp [Tr.dec] at h
    · rename_i h1
      simp only [h1]
      split at h
      · rename_i h2
        split at h
        · rename_i h3
          simp only [Tr.dec, Option.some.injEq, Prod.mk.injEq] at h
          obtain ⟨rfl, rfl⟩ := h
          exact ⟨_, by simp [h2, h3, Tr.dec], set_agree hr hl _ _, by simp [Rts.setRoot, hl]⟩
        · simp [Tr.dec] at h
      · rename_i h2
        split at h
        · rename_i h3
          simp only [Tr.dec, Option.some.injEq, Prod.mk.injEq] at h
          obtain ⟨rfl, rfl⟩ := h
          exact ⟨T, by simp [h2, h3, Tr.dec], hr, hl⟩
        · rename_i h3
          split at h
          · rename_i h4
            simp only [Tr.dec, Option.some.injEq, Prod.mk.injEq] at h
            obtain ⟨rfl, rfl⟩ := h
            refine ⟨_, ?_, set_agree hr hl _ _, by simp [Rts.setRoot, hl]⟩
            simp only [h2, Bool.false_eq_true, if_false, h3, h4, if_true, Tr.dec]
          · simp [Tr.dec] at h
theorem build_lk {F : List Nat} {T0 : Ty} : ∀ (l : List (Nat × AV)) (acc : Mk × T0.den) {S T : Rts} {m : Mk} {x : T0.den} {S' : Rts}, RAgree F S T → T.length = S.length → (∀ r ∈ rootsAll (l.map (·.2)), r ∈ F) →
    buildParts S T0 acc l = some (m, x, S') → ∃ T', buildParts T T0 acc l = some (m, x, T') ∧ RAgree F S' T' ∧ T'.length = S'.length
  | [], acc, S, T, m, x, S', hr, hl, hF, h => by
    simp only [buildParts, Option.some.injEq, Prod.mk.injEq] at h ⊢
    obtain ⟨rfl, rfl, rfl⟩ := h
    exact ⟨T, ⟨rfl, rfl, rfl⟩, hr, hl⟩
  | (i, v) :: l, acc, S, T, m, x, S', hr, hl, hF, h => by
    simp only [buildParts, Option.bind_eq_some_iff] at h
    obtain ⟨d, hd, ⟨m1, x1, S1⟩, h1, r, h3, h2⟩ := h
    obtain ⟨T1, k1, k2, k3⟩ := tk_lk _ v hr hl (fun r h => hF r (by simp [rootsAll, h])) h1
    obtain ⟨T2, q1, q2, q3⟩ := build_lk l _ k2 k3 (fun r h => hF r (by simp only [List.map_cons, rootsAll, List.mem_append]; exact .inr h)) h2
    refine ⟨T2, ?_, q2, q3⟩
    simp only [buildParts, Option.bind_eq_some_iff]
    exact ⟨d, hd, (m1, x1, T1), k1, r, h3, q1⟩
theorem row_lk {F : List Nat} {e : Ty} : ∀ (l : List (Nat × AV)) (acc : Mk × List e.den) {S T : Rts} {m : Mk} {x : List e.den} {S' : Rts}, RAgree F S T → T.length = S.length → (∀ r ∈ rootsAll (l.map (·.2)), r ∈ F) →
    rowParts S e acc l = some (m, x, S') → ∃ T', rowParts T e acc l = some (m, x, T') ∧ RAgree F S' T' ∧ T'.length = S'.length
  | [], acc, S, T, m, x, S', hr, hl, hF, h => by
    simp only [rowParts, Option.some.injEq, Prod.mk.injEq] at h ⊢
    obtain ⟨rfl, rfl, rfl⟩ := h
    exact ⟨T, ⟨rfl, rfl, rfl⟩, hr, hl⟩
  | (i, v) :: l, acc, S, T, m, x, S', hr, hl, hF, h => by
    simp only [rowParts] at h ⊢
    split at h
    · rename_i hi
      simp only [Option.bind_eq_some_iff] at h
      obtain ⟨⟨m1, x1, S1⟩, h1, h2⟩ := h
      obtain ⟨T1, k1, k2, k3⟩ := tk_lk _ v hr hl (fun r h => hF r (by simp [rootsAll, h])) h1
      obtain ⟨T2, q1, q2, q3⟩ := row_lk l _ k2 k3 (fun r h => hF r (by simp only [List.map_cons, rootsAll, List.mem_append]; exact .inr h)) h2
      refine ⟨T2, ?_, q2, q3⟩
      rw [if_pos hi]
      simp only [Option.bind_eq_some_iff]
      exact ⟨(m1, x1, T1), k1, q1⟩
    · simp at h
theorem append_lk {F : List Nat} {A : Asks} {S T : Rts} (hr : RAgree F S T) (hl : T.length = S.length) {d : Option Nat} {site : Nat} {t : Ty} {x y : AV} (hx : ∀ r ∈ x.roots, r ∈ F) (hy : ∀ r ∈ y.roots, r ∈ F) {β : Bool} :
    Lk F ((appendT A S d site t x y).dec β) ((appendT A T d site t x y).dec β) := by
  intro v S' h
  unfold appendT at h ⊢
  cases h1 : tk S (.sl t) x with
  | none => rw [h1] at h; simp [Tr.dec] at h
  | some z =>
    obtain ⟨m1, xs, S1⟩ := z
    obtain ⟨T1, k1, k2, k3⟩ := tk_lk _ x hr hl hx h1
    rw [h1] at h
    rw [k1]
    cases m1 with
    | own s m =>
      simp only at h ⊢
      cases h2 : tk S1 (.sl t) y with
      | none => rw [h2] at h; simp [Tr.dec] at h
      | some z =>
        obtain ⟨my, ys, S2⟩ := z
        obtain ⟨T2, q1, q2, q3⟩ := tk_lk _ y k2 k3 hy h2
        rw [h2] at h
        rw [q1]
        simp only at h ⊢
        cases hm : elMk my with
        | none => rw [hm] at h; simp [Tr.dec] at h
        | some m' =>
          rw [hm] at h
          simp only at h ⊢
          split at h
          · rename_i h3
            rw [if_pos h3]
            simp only [Tr.dec] at h ⊢
            split at h
            · exact lay_lk q2 q3 v S' h
            · simp at h
          · simp [Tr.dec] at h
    | _ => simp [Tr.dec] at h
theorem nest_lk {F : List Nat} {S T : Rts} (hr : RAgree F S T) (hl : T.length = S.length) {t : Ty} {x y : AV} (hx : ∀ r ∈ x.roots, r ∈ F) {β : Bool} :
    Lk F ((nestT S t x y).dec β) ((nestT T t x y).dec β) := by
  intro v S' h
  unfold nestT at h ⊢
  split at h
  · rename_i r p s t2 ys
    have hroot := hr r (hx r (by simp [AV.roots]))
    try simp only
    rw [hroot]
    cases hR : S.root r with
    | none => rw [hR] at h; simp [Tr.dec] at h
    | some R =>
      rw [hR] at h
      simp only at h ⊢
      split at h
      · rename_i t' s' m xs hf
        split at h
        · rename_i hc
          rw [if_pos hc]
          split at h
          · rename_i a b r' e1 e2 e3
            simp only [Tr.dec] at h ⊢
            split at h
            · simp only [Option.some.injEq, Prod.mk.injEq] at h
              obtain ⟨rfl, rfl⟩ := h
              exact ⟨_, rfl, set_agree hr hl _ _, by simp [Rts.setRoot, hl]⟩
            · simp at h
          · simp [Tr.dec] at h
        · simp [Tr.dec] at h
      · simp [Tr.dec] at h
  · simp [Tr.dec] at h
theorem slice_lk {F : List Nat} {A : Asks} {S T : Rts} (hr : RAgree F S T) (hl : T.length = S.length) {U : Ty} {d : Option Nat} {site : Nat} {x : AV} {lo hi : Option AV} (hx : ∀ r ∈ x.roots, r ∈ F) {β : Bool} :
    Lk F ((sliceT A S U d site x lo hi).dec β) ((sliceT A T U d site x lo hi).dec β) := by
  intro v S' h
  unfold sliceT at h ⊢
  split at h
  · split at h
    · simp only [Tr.dec] at h ⊢
      split at h
      · simp only [Option.some.injEq, Prod.mk.injEq] at h
        obtain ⟨rfl, rfl⟩ := h
        rename_i hc
        exact ⟨T, by simp [hc], hr, hl⟩
      · simp at h
    · simp [Tr.dec] at h
  · split at h
    · split at h
      · rename_i hc
        simp only [Tr.dec] at h ⊢
        rw [if_pos hc]
        split at h
        · simp only [Option.some.injEq, Prod.mk.injEq] at h
          obtain ⟨rfl, rfl⟩ := h
          rename_i hc
          exact ⟨T, by simp [Tr.dec, hc], hr, hl⟩
        · simp at h
      · simp [Tr.dec] at h
    · simp [Tr.dec] at h
  · rename_i r p s e
    split at h
    · cases h1 : tk S (.sl e) (.brw r p s) with
      | none => rw [h1] at h; simp [Tr.dec] at h
      | some z =>
        obtain ⟨m1, xs, S1⟩ := z
        obtain ⟨T1, k1, k2, k3⟩ := tk_lk _ _ hr hl hx h1
        rw [h1] at h
        simp only [k1]
        cases m1 with
        | own s m =>
          simp only at h ⊢
          split at h
          · split at h
            · rename_i hc
              rw [if_pos hc]
              simp only [Tr.dec] at h ⊢
              split at h
              · rename_i hd
                try simp only [hd]
                exact lay_lk k2 k3 v S' h
              · simp at h
            · simp [Tr.dec] at h
          · simp [Tr.dec] at h
        | _ => simp [Tr.dec] at h
    · unfold viewT at h ⊢
      have hf := focus_local hr (hx r (by simp [AV.roots])) p
      rw [hf]
      split at h
      · split at h
        · rename_i hq
          try simp only [hq]
          split at h
          · rename_i hc
            rw [if_pos hc]
            simp only [Tr.dec] at h ⊢
            split at h
            · simp only [Option.some.injEq, Prod.mk.injEq] at h
              obtain ⟨rfl, rfl⟩ := h
              rename_i hd
              exact ⟨T, by simp [hd], hr, hl⟩
            · simp at h
          · simp [Tr.dec] at h
        · simp [Tr.dec] at h
      · simp [Tr.dec] at h
  · simp [Tr.dec] at h
theorem res_lk {F : List Nat} {A : Asks} {S T : Rts} (hr : RAgree F S T) (hl : T.length = S.length) {d : Option Nat} {site : Nat} : ∀ (rs : List RK) (r : RDen rs) {β : Bool}, Lk F ((layRes A S d site rs r).dec β) ((layRes A T d site rs r).dec β)
  | [], r, β => by
    intro v S' h
    simp only [layRes, Tr.dec, Option.some.injEq, Prod.mk.injEq] at h ⊢
    obtain ⟨rfl, rfl⟩ := h
    exact ⟨T, ⟨rfl, rfl⟩, hr, hl⟩
  | [.val t m], r, β => by
    intro v S' h
    simp only [layRes] at h ⊢
    split at h
    · rename_i hc
      rw [if_pos hc]
      exact lay_lk hr hl v S' h
    · simp [Tr.dec] at h
  | [.ptr t m], r, β => by
    intro v S' h
    simp only [layRes] at h ⊢
    split at h
    · rename_i hc
      rw [if_pos hc]
      exact lay_lk hr hl v S' h
    · simp [Tr.dec] at h
  | q1 :: q2 :: rs, r, β => by
    intro v S' h
    have e : ∀ S : Rts, layRes A S d site (q1 :: q2 :: rs) r = layMany A S d site (q1 :: q2 :: rs) r := by intro S; cases q1 <;> simp only [layRes]
    rw [e] at h ⊢
    unfold layMany at h ⊢
    split at h
    · rename_i hc
      rw [if_pos hc]
      cases d with
      | none =>
        simp only [Tr.dec, Option.some.injEq, Prod.mk.injEq] at h ⊢
        obtain ⟨rfl, rfl⟩ := h
        exact ⟨T, ⟨rfl, rfl⟩, hr, hl⟩
      | some d =>
        simp only at h ⊢
        cases hL : layT A S (some d) site (resTy (q1 :: q2 :: rs)) (resMk (q1 :: q2 :: rs)) (resX (q1 :: q2 :: rs) r) false with
        | ret z =>
          obtain ⟨v1, S1⟩ := z
          rw [hL] at h
          simp only [Tr.dec, Option.some.injEq, Prod.mk.injEq] at h
          obtain ⟨rfl, rfl⟩ := h
          obtain ⟨T1, k1, k2, k3⟩ := lay_lk (A := A) (d := some d) (site := site) (t := resTy (q1 :: q2 :: rs)) (m := resMk (q1 :: q2 :: rs)) (x := resX (q1 :: q2 :: rs) r) (mem := false) (β := true) hr hl v1 S1 (by rw [hL]; rfl)
          cases hM : layT A T (some d) site (resTy (q1 :: q2 :: rs)) (resMk (q1 :: q2 :: rs)) (resX (q1 :: q2 :: rs) r) false with
          | ret z =>
            obtain ⟨v2, S2⟩ := z
            rw [hM] at k1
            simp only [Tr.dec, Option.some.injEq, Prod.mk.injEq] at k1
            obtain ⟨rfl, rfl⟩ := k1
            exact ⟨_, rfl, k2, k3⟩
          | fail => rw [hM] at k1; simp [Tr.dec] at k1
          | _ =>
            exfalso
            simp only [layT] at hM
            repeat' split at hM
            all_goals simp at hM
        | _ => rw [hL] at h; simp [Tr.dec] at h
    · simp [Tr.dec] at h
section
variable {C : Ctx} {D : Den C}
theorem own_lk {S T : Rts} : ∀ (ks : List PK) (avs : List AV), ks.all PK.loc = true → argOwn T ks avs = (argOwn S ks avs).map fun z => (z.1, T)
  | [], [], _ => rfl
  | [], _ :: _, _ => rfl
  | k :: ks, [], _ => by cases k <;> rfl
  | k :: ks, a :: avs, h => by
    simp only [List.all_cons, Bool.and_eq_true] at h
    cases k with
    | val t => simp only [argOwn]; exact own_lk ks avs h.2
    | rptr t => simp only [argOwn]; exact own_lk ks avs h.2
    | mutp t m m' => simp only [argOwn]; exact own_lk ks avs h.2
    | fn => simp only [argOwn]; exact own_lk ks avs h.2
    | _ => simp [PK.loc] at h
theorem own_id {S rt : Rts} {ks : List PK} {avs : List AV} {g : GDen ks} (hp : ks.all PK.loc = true) (h : argOwn S ks avs = some (g, rt)) : rt = S := by
  have := own_lk (S := S) (T := S) ks avs hp
  rw [h] at this
  simp only [Option.map_some, Option.some.injEq, Prod.mk.injEq, true_and] at this
  exact this
theorem lend_lk {F : List Nat} : ∀ (ks : List PK) (avs : List AV) {S T : Rts} {o : ODen ks} {S' : Rts}, RAgree F S T → T.length = S.length → ks.all PK.loc = true → (∀ r ∈ rootsAll avs, r ∈ F) → argLend S ks avs = some (o, S') →
    ∃ T', argLend T ks avs = some (o, T') ∧ RAgree F S' T' ∧ T'.length = S'.length
  | [], [], S, T, o, S', hr, hl, _, _, h => by
    simp only [argLend, Option.some.injEq, Prod.mk.injEq] at h
    obtain ⟨_, rfl⟩ := h
    exact ⟨T, rfl, hr, hl⟩
  | [], _ :: _, S, T, o, S', hr, hl, _, _, h => by simp [argLend] at h
  | k :: ks, [], S, T, o, S', hr, hl, _, _, h => by cases k <;> simp [argLend] at h
  | k :: ks, a :: avs, S, T, o, S', hr, hl, hp, hF, h => by
    simp only [List.all_cons, Bool.and_eq_true] at hp
    have hF2 : ∀ r ∈ rootsAll avs, r ∈ F := fun r h => hF r (by simp [rootsAll, h])
    cases k with
    | val t => simp only [argLend] at h ⊢; exact lend_lk ks avs hr hl hp.2 hF2 h
    | rptr t => simp only [argLend] at h ⊢; exact lend_lk ks avs hr hl hp.2 hF2 h
    | fn => simp only [argLend] at h ⊢; exact lend_lk ks avs hr hl hp.2 hF2 h
    | mutp t m m' =>
      cases a with
      | addr q p =>
        cases p with
        | nil =>
          have hq := hr q (hF q (by simp [rootsAll, AV.roots]))
          simp only [argLend] at h ⊢
          rw [hq]
          cases hR : S.root q with
          | none => rw [hR] at h; simp at h
          | some R =>
            rw [hR] at h
            simp only at h ⊢
            split at h
            · rename_i hc
              rw [if_pos hc]
              simp only [Option.bind_eq_some_iff, Option.some.injEq, Prod.mk.injEq] at h ⊢
              obtain ⟨x, hx, ⟨o2, S2⟩, h2, rfl, rfl⟩ := h
              obtain ⟨T2, q1, q2, q3⟩ := lend_lk ks avs (set_agree hr hl q none) (by simp [Rts.setRoot, hl]) hp.2 hF2 h2
              exact ⟨T2, ⟨x, hx, (o2, T2), q1, rfl, rfl⟩, q2, q3⟩
            · simp at h
        | cons _ _ => simp [argLend] at h
      | _ => simp [argLend] at h
    | _ => simp [PK.loc] at hp
theorem out_lk {F : List Nat} {site : Nat} : ∀ (ks : List PK) (avs : List AV) (o : ODen ks) {S T : Rts} {S' : Rts}, RAgree F S T → T.length = S.length → ks.all PK.loc = true → outDen S site ks avs o = some S' →
    ∃ T', outDen T site ks avs o = some T' ∧ RAgree F S' T' ∧ T'.length = S'.length
  | [], [], o, S, T, S', hr, hl, _, h => by
    simp only [outDen, Option.some.injEq] at h
    subst h
    exact ⟨T, rfl, hr, hl⟩
  | [], _ :: _, o, S, T, S', hr, hl, _, h => by simp [outDen] at h
  | k :: ks, [], o, S, T, S', hr, hl, _, h => by cases k <;> simp [outDen] at h
  | k :: ks, a :: avs, o, S, T, S', hr, hl, hp, h => by
    simp only [List.all_cons, Bool.and_eq_true] at hp
    cases k with
    | val t => simp only [outDen] at h ⊢; exact out_lk ks avs o hr hl hp.2 h
    | rptr t => simp only [outDen] at h ⊢; exact out_lk ks avs o hr hl hp.2 h
    | fn => simp only [outDen] at h ⊢; exact out_lk ks avs o hr hl hp.2 h
    | mutp t m m' =>
      cases a with
      | addr q p =>
        cases p with
        | nil =>
          simp only [outDen] at h ⊢
          split at h
          · rename_i hc
            rw [if_pos hc]
            exact out_lk ks avs o.2 (set_agree hr hl q _) (by simp [Rts.setRoot, hl]) hp.2 h
          · simp at h
        | cons _ _ => simp [outDen] at h
      | _ => simp [outDen] at h
    | _ => simp [PK.loc] at hp
theorem call_lk {F : List Nat} {A : Asks} {S T : Rts} (hr : RAgree F S T) (hl : T.length = S.length) {d : Option Nat} {site : Nat} {g : FuncId} {avs : List AV} (hp : (C.sig g).params.all PK.loc = true) (has : ∀ r ∈ rootsAll avs, r ∈ F) {β : Bool} :
    Lk F ((callT C D A S d site g avs).dec β) ((callT C D A T d site g avs).dec β) := by
  intro v S' h
  unfold callT at h ⊢
  rw [own_lk (S := S) (T := T) _ _ hp]
  cases h1 : argOwn S (C.sig g).params avs with
  | none => rw [h1] at h; simp [Tr.dec] at h
  | some z =>
    obtain ⟨gd, S1⟩ := z
    obtain rfl := own_id hp h1
    rw [h1] at h
    simp only [Option.map_some] at h ⊢
    cases h2 : argLend S1 (C.sig g).params avs with
    | none => rw [h2] at h; simp [Tr.dec] at h
    | some z =>
      obtain ⟨od, S2⟩ := z
      obtain ⟨T2, k1, k2, k3⟩ := lend_lk _ _ hr hl hp has h2
      rw [h2] at h
      simp only [k1] at h ⊢
      rw [argDen_local _ _ _ _ (k2.sub has)]
      cases h3 : argDen S2 (C.sig g).params avs gd od with
      | none => rw [h3] at h; simp [Tr.dec] at h
      | some aa =>
        rw [h3] at h
        simp only at h ⊢
        split at h
        · rename_i hc
          rw [if_pos hc]
          simp only [Tr.dec] at h ⊢
          cases hD : D g aa with
          | none => rw [hD] at h; simp at h
          | some rr =>
            rw [hD] at h
            simp only [Option.bind_some] at h ⊢
            split at h
            · rename_i hn
              rw [if_pos hn]
              exact res_lk hr hl _ _ v S' h
            · rename_i hn
              rw [if_neg hn]
              split at h
              · rename_i hfr
                rw [if_pos hfr]
                simp only [Tr.dec] at h ⊢
                split at h
                · rename_i hlo
                  cases ho : outDen S1 site (C.sig g).params avs rr.2 with
                  | none => rw [ho] at h; simp [Tr.dec] at h
                  | some S3 =>
                    obtain ⟨T3, q1, q2, q3⟩ := out_lk _ _ _ hr hl hp ho
                    rw [ho] at h
                    simp only at h
                    obtain ⟨T', r1, r2, r3⟩ := res_lk q2 q3 _ _ v S' h
                    exact ⟨T', by rw [q1]; exact r1, r2, r3⟩
                · simp at h
              · simp [Tr.dec] at h
        · simp [Tr.dec] at h
theorem op_lk {F : List Nat} {A : Asks} {ρ : Operand → AV} {S T : Rts} (hr : RAgree F S T) (hl : T.length = S.length) {site : Nat} {hint : Bool} {o : Oper} (hlc : locOp C ρ o = true)
    (hF : ∀ r ∈ rootsAll (o.op.operands.toList.map ρ), r ∈ F) {β : Bool} : Lk F ((opT C D A ρ S site hint o).dec β) ((opT C D A ρ T site hint o).dec β) := by
  have hin : ∀ {x : Operand}, x ∈ o.op.operands → ∀ r ∈ (ρ x).roots, r ∈ F := fun hx r hr => hF r (mem_rootsAll (List.mem_map.2 ⟨_, by simpa using hx, rfl⟩) r hr)
  intro v S' h
  cases ho : o.op with
  | alloc t =>
    simp only [opT, ho] at h ⊢
    split at h
    · rename_i hc
      rw [if_pos hc]; exact lay_lk hr hl v S' h
    · simp [Tr.dec] at h
  | box t x =>
    have hx := hin (x := x) (by rw [ho]; simp [Op.operands])
    simp only [opT, ho] at h ⊢
    split at h
    · rename_i hc
      rw [if_pos hc]
      cases h1 : tk S (C.ty t) (ρ x) with
      | none => rw [h1] at h; simp [Tr.dec] at h
      | some z =>
        obtain ⟨m, y, S1⟩ := z
        obtain ⟨T1, k1, k2, k3⟩ := tk_lk _ _ hr hl hx h1
        rw [h1] at h
        rw [k1]
        simp only at h ⊢
        split at h
        · rename_i hh
          rw [if_pos hh]
          split at h
          · rename_i hm
            rw [if_pos hm]; exact lay_lk k2 k3 v S' h
          · simp [Tr.dec] at h
        · rename_i hh
          rw [if_neg hh]; exact lay_lk k2 k3 v S' h
    · simp [Tr.dec] at h
  | build t ps =>
    simp only [opT, ho] at h ⊢
    split at h
    · rename_i hc
      rw [if_pos hc]
      cases h1 : buildParts S (C.ty t) (Mk.top (C.ty t), (C.ty t).zero) (ps.toList.map fun p => (p.1, ρ p.2)) with
      | none => rw [h1] at h; simp [Tr.dec] at h
      | some z =>
        obtain ⟨m, y, S1⟩ := z
        obtain ⟨T1, k1, k2, k3⟩ := build_lk _ _ hr hl (fun r hr => by rw [parts_roots] at hr; exact hF r (by rw [ho]; simpa [Op.operands] using hr)) h1
        rw [h1] at h
        rw [k1]
        exact lay_lk k2 k3 v S' h
    · simp [Tr.dec] at h
  | buildSlice t n ps =>
    simp only [opT, ho] at h ⊢
    split at h
    · rename_i e he
      cases h1 : rowParts S e (Mk.top e, List.replicate n e.zero) (ps.toList.map fun p => (p.1, ρ p.2)) with
      | none => rw [h1] at h; simp [Tr.dec] at h
      | some z =>
        obtain ⟨m, y, S1⟩ := z
        obtain ⟨T1, k1, k2, k3⟩ := row_lk _ _ hr hl (fun r hr => by rw [parts_roots] at hr; exact hF r (by rw [ho]; simpa [Op.operands] using hr)) h1
        rw [h1] at h
        simp only [k1]
        simp only at h
        split at h
        · rename_i hc
          rw [if_pos hc]
          split at h
          · rename_i hh
            rw [if_pos hh]
            split at h
            · rename_i hm
              rw [if_pos hm]
              simp only [Tr.dec, Option.some.injEq, Prod.mk.injEq] at h ⊢
              obtain ⟨rfl, rfl⟩ := h
              exact ⟨T1, ⟨rfl, rfl⟩, k2, k3⟩
            · simp [Tr.dec] at h
          · rename_i hh
            rw [if_neg hh]
            exact lay_lk k2 k3 v S' h
        · simp [Tr.dec] at h
    · simp [Tr.dec] at h
  | makeSlice t x y =>
    simp only [opT, ho] at h ⊢
    split at h
    · simp only [Tr.dec] at h ⊢
      split at h
      · rename_i hc
        try simp only [hc]
        exact lay_lk hr hl v S' h
      · simp at h
    · simp [Tr.dec] at h
  | slice t x lo hi mx =>
    cases mx with
    | none =>
      have hx := hin (x := x) (by rw [ho]; simp [Op.operands])
      simp only [opT, ho] at h ⊢
      exact slice_lk hr hl hx v S' h
    | some _ => simp [locOp, ho] at hlc
  | call c =>
    simp only [locOp, ho] at hlc
    cases hc : c.callee with
    | builtin b =>
      rw [hc] at hlc
      cases b <;> simp only [Bool.false_eq_true] at hlc
      have hargs : ∀ x ∈ c.args, ∀ r ∈ (ρ x).roots, r ∈ F := fun x hx => hin (by rw [ho]; simp only [Op.operands, Call.operands, Array.mem_append]; right; simpa using hx)
      simp only [opT, ho, hc] at h ⊢
      split at h
      · exact Builtin.noConfusion ‹Builtin.append = Builtin.len›
      · exact Builtin.noConfusion ‹Builtin.append = Builtin.len›
      · rename_i x y t t' ts e1 e2 e3
        have hm : ∀ z ∈ c.args.toList.map ρ, ∀ r ∈ z.roots, r ∈ F := by
          intro z hz
          obtain ⟨w, hw, rfl⟩ := List.mem_map.1 hz
          exact hargs w (by simpa using hw)
        rw [e2] at hm
        try simp only [e2, e3]
        split at h
        · rename_i ht
          rw [if_pos ht]
          split at h
          · rename_i hh
            rw [if_pos hh]
            exact nest_lk hr hl (hm x (by simp)) v S' h
          · rename_i hh
            rw [if_neg hh]
            exact append_lk hr hl (hm x (by simp)) (hm y (by simp)) v S' h
        · simp [Tr.dec] at h
      · exact Builtin.noConfusion ‹Builtin.append = Builtin.clear›
      · exact Builtin.noConfusion ‹Builtin.append = Builtin.min›
      · exact Builtin.noConfusion ‹Builtin.append = Builtin.max›
      · simp [Tr.dec] at h
    | value f =>
      rw [hc] at hlc
      simp only at hlc
      cases hf : ρ f with
      | clo g caps =>
        rw [hf] at hlc
        simp only at hlc
        simp only [opT, ho, hc, hf] at h ⊢
        refine call_lk hr hl hlc ?_ v S' h
        intro r hr
        rw [rootsAll_append] at hr
        rcases hr with hr | hr
        · refine hF r ?_
          rw [ho]
          simp only [Op.operands, Call.operands, hc]
          have : ∀ l : List AV, ∀ a, r ∈ rootsAll l → r ∈ rootsAll (a :: l) := fun l a h => by simp [rootsAll, h]
          simpa using this _ _ hr
        · have := avList_roots caps r hr
          exact hin (x := f) (by rw [ho]; simp [Op.operands, Call.operands, hc]) r (by rw [hf]; simpa [AV.roots] using this)
      | _ => rw [hf] at hlc; simp at hlc
    | invoke r m => rw [hc] at hlc; simp at hlc
  | _ => simp [locOp, ho] at hlc
end
end Go.V

namespace Go.V
open Go
theorem noPl_off {d : Nat} : ∀ (v : AV), d ∉ v.roots → v.noPl d = true
  | .addr r p, h => by
    simp only [AV.roots, List.mem_singleton] at h
    simp only [AV.noPl, Bool.or_eq_true, Bool.not_eq_true']
    left
    cases hb : Nat.beq r d with
    | false => rfl
    | true => exact absurd (Nat.eq_of_beq_eq_true hb).symm h
  | .pair a b, h => by
    simp only [AV.roots, List.mem_append, not_or] at h
    simp only [AV.noPl, Bool.and_eq_true]
    exact ⟨noPl_off a h.1, noPl_off b h.2⟩
  | .tup a, h => noPl_off a h
  | .clo _ a, h => noPl_off a h
  | .undef, _ => rfl
  | .skip, _ => rfl
  | .litB _, _ => rfl
  | .unit, _ => rfl
  | .nils, _ => rfl
  | .val _ _, _ => rfl
  | .brw _ _ _, _ => rfl
  | .view _ _ _ _ _, _ => rfl
  | .raddr _ _, _ => rfl
  | .cloV _, _ => rfl
theorem win_off {s s' : Nat} (h : s ≠ s') : (!(Nat.ble s s' && Nat.blt s' (s + 1))) = true := by
  cases h1 : Nat.ble s s' with
  | false => rfl
  | true =>
    cases h2 : Nat.blt s' (s + 1) with
    | false => rfl
    | true =>
      have a := Nat.le_of_ble_eq_true h1
      have b : s' + 1 ≤ s + 1 := Nat.le_of_ble_eq_true h2
      omega
theorem pathOk_off {s : Nat} : ∀ (p : Path), s ∉ pathStamps p → pathOk s (s + 1) p = true
  | [], _ => rfl
  | x :: p, h => by
    cases x with
    | idx i s' =>
      simp only [pathStamps, List.mem_cons, not_or] at h
      simp only [pathOk, Bool.and_eq_true]
      exact ⟨win_off h.1, pathOk_off p h.2⟩
    | _ => exact pathOk_off p (by simpa [pathStamps] using h)
theorem stamps_off {s : Nat} : ∀ (v : AV), s ∉ v.stamps → v.stampsOk s (s + 1) = true
  | .addr r p, h => pathOk_off p h
  | .brw r p s', h => by
    simp only [AV.stamps, List.mem_cons, not_or] at h
    simp only [AV.stampsOk, Bool.and_eq_true]
    exact ⟨win_off h.1, pathOk_off p h.2⟩
  | .view r p s' _ _, h => by
    simp only [AV.stamps, List.mem_cons, not_or] at h
    simp only [AV.stampsOk, Bool.and_eq_true]
    exact ⟨win_off h.1, pathOk_off p h.2⟩
  | .pair a b, h => by
    simp only [AV.stamps, List.mem_append, not_or] at h
    simp only [AV.stampsOk, Bool.and_eq_true]
    exact ⟨stamps_off a h.1, stamps_off b h.2⟩
  | .tup a, h => stamps_off a h
  | .clo _ a, h => stamps_off a h
  | .undef, _ => rfl
  | .skip, _ => rfl
  | .litB _, _ => rfl
  | .unit, _ => rfl
  | .nils, _ => rfl
  | .val _ _, _ => rfl
  | .raddr _ _, _ => rfl
  | .cloV _, _ => rfl
theorem disj_ok : ∀ {l l' : List Nat}, disj l l' = true → ∀ x ∈ l, x ∉ l'
  | [], _, _, x, hx => by simp at hx
  | a :: l, l', h, x, hx => by
    simp only [disj, Bool.and_eq_true, Bool.not_eq_true'] at h
    rcases List.mem_cons.1 hx with rfl | hx
    · intro hh; have := h.1; simp at this; exact this hh
    · exact disj_ok h.2 x hx
theorem mem_rootsAt {S : St} {u r : Nat} : ∀ {ts : List Nat}, u ∈ ts → r ∈ (S.get u).roots → r ∈ rootsAt S ts
  | [], h, _ => by simp at h
  | t :: ts, h, hr => by
    simp only [rootsAt, List.mem_append]
    rcases List.mem_cons.1 h with rfl | h
    · exact .inl hr
    · exact .inr (mem_rootsAt h hr)
theorem mem_stampsAt {S : St} {u r : Nat} : ∀ {ts : List Nat}, u ∈ ts → r ∈ (S.get u).stamps → r ∈ stampsAt S ts
  | [], h, _ => by simp at h
  | t :: ts, h, hr => by
    simp only [stampsAt, List.mem_append]
    rcases List.mem_cons.1 h with rfl | h
    · exact .inl hr
    · exact .inr (mem_stampsAt h hr)
theorem rootsAt_congr {S T : St} : ∀ {ts : List Nat}, (∀ u ∈ ts, T.get u = S.get u) → rootsAt T ts = rootsAt S ts
  | [], _ => rfl
  | t :: ts, h => by simp only [rootsAt]; rw [h t List.mem_cons_self, rootsAt_congr fun u hu => h u (List.mem_cons_of_mem _ hu)]
theorem stampsAt_congr {S T : St} : ∀ {ts : List Nat}, (∀ u ∈ ts, T.get u = S.get u) → stampsAt T ts = stampsAt S ts
  | [], _ => rfl
  | t :: ts, h => by simp only [stampsAt]; rw [h t List.mem_cons_self, stampsAt_congr fun u hu => h u (List.mem_cons_of_mem _ hu)]
theorem st_ext {S T : St} (hl : T.sl.length = S.sl.length) (hg : ∀ u, T.get u = S.get u) (hr : T.rt = S.rt) : T = S := by
  obtain ⟨a, b⟩ := S
  obtain ⟨c, d⟩ := T
  simp only at hl hr
  subst hr
  have : c = a := by
    apply List.ext_getElem hl
    intro i h1 h2
    have := hg i
    simp only [St.get, List.getD, List.getElem?_eq_getElem h1, List.getElem?_eq_getElem h2, Option.getD_some] at this
    exact this
  rw [this]
section
variable {C : Ctx} {D : Den C} {hints : Hints} {id : Nat} {ops : Array Oper}
theorem ev_near {S T : St} {y : Oper} (h : ∀ u ∈ looksOf ops y, T.get u = S.get u) : ∀ x ∈ y.op.operands, ev T x = ev S x := by
  intro x hx
  cases x with
  | tmp t =>
    simp only [ev]
    rw [h t (by
      unfold looksOf
      rw [List.mem_append]
      right
      rw [List.mem_filterMap]
      exact ⟨.tmp t, by simpa using hx, rfl⟩)]
  | _ => rfl
theorem guard_near {S T : St} {y : Oper} (h : ∀ u ∈ looksOf ops y, T.get u = S.get u) : guardB ops T y = guardB ops S y := by
  unfold guardB
  cases hg : y.guard with
  | none => rfl
  | some jb =>
    obtain ⟨j, b⟩ := jb
    simp only
    rw [h (dstOf ops j) (by unfold looksOf; rw [hg]; simp)]
theorem ent_near {S T : St} {j site : Nat} {y : Oper} {v : AV} {a b : Rts} (hr : wrOf C (ev S) y = none ∨ (T.rt = S.rt ∧ a = b) ∨ locOp C (ev S) y = true) (hk : ∀ u ∈ looksOf ops y, T.get u = S.get u) (ho : ∀ u ∈ overOf ops j y, T.get u = S.get u) : entOf C ops T site j y v a = entOf C ops S site j y v b := by
  have he := ev_near hk
  have hv : opVals T y = opVals S y := by
    unfold opVals
    exact List.map_congr_left fun x hx => he x (by simpa using hx)
  unfold entOf
  have hld : ldOf C (ev T) y v = ldOf C (ev S) y v := by
    unfold ldOf
    split
    · rename_i t x hop
      rw [he x (by rw [hop]; simp [Op.operands])]
    · rename_i t x f hop
      rw [he x (by rw [hop]; simp [Op.operands])]
    · rfl
  rw [hv, rootsAt_congr ho, stampsAt_congr ho, wr_congr (C := C) y he, loc_congr (C := C) y he, hld]
  rcases hr with h | ⟨h1, h2⟩ | h
  · rw [h]
  · rw [h1, h2]
  · rw [h]; cases wrOf C (ev S) y <;> rfl
theorem skip_near {S T : St} {j site : Nat} {y : Oper} (ho : ∀ u ∈ overOf ops j y, T.get u = S.get u) : entSkip ops T site j y = entSkip ops S site j y := by
  unfold entSkip
  rw [rootsAt_congr ho, stampsAt_congr ho]
theorem fin_near {S T : St} {rt rt' : Rts} {j : Nat} {y : Oper} {v : AV} (hl : T.sl.length = S.sl.length) (ho : ∀ u ∈ overOf ops j y, T.get u = S.get u) : ∀ u ∈ overOf ops j y, (fin ops ⟨T.sl, rt⟩ j y v).get u = (fin ops ⟨S.sl, rt'⟩ j y v).get u := by
  intro u hu
  rw [fin_get, fin_get]
  simp only [hl]
  have := ho u hu
  by_cases h1 : y.dst = some u ∧ u < S.sl.length
  · rw [if_pos h1, if_pos h1]
  · rw [if_neg h1, if_neg h1]
    by_cases h2 : u ∈ forgetOf ops j y
    · rw [if_pos h2, if_pos h2]
    · rw [if_neg h2, if_neg h2]; exact this
theorem quiet_dec {S : St} {A : Asks} {site : Nat} {hint : Bool} {y : Oper} (hw : wrOf C (ev S) y = none) {T : St} {A' : Asks} (hrl : T.rt.length = S.rt.length)
    (hr : RAgree (if blindOp y then [] else rootsAll (opVals S y)) S.rt T.rt) {β : Bool} {v : AV} {rt' : Rts} (h : (opT C D A (ev S) S.rt site hint y).dec β = some (v, rt')) : rt' = S.rt ∧ (opT C D A' (ev S) T.rt site hint y).dec β = some (v, T.rt) :=
  quiet_way (A := A) (A' := A') hrl hw hr β v rt' h
def NearE (e : Ent) (S T : Rts) : Prop := RAgree e.rd S T ∨ e.bl = true ∨ ∃ l, e.ld = some l ∧ l.1 T = some l.2
theorem load_late {S T : St} {A A' : Asks} {site : Nat} {hint : Bool} {y : Oper} {β : Bool} {v : AV} {rt' : Rts} (h : (opT C D A (ev S) S.rt site hint y).dec β = some (v, rt')) {l : (Rts → Option AV) × AV} (hl : ldOf C (ev S) y v = some l)
    (hT : l.1 T.rt = some l.2) : rt' = S.rt ∧ (opT C D A' (ev S) T.rt site hint y).dec β = some (v, T.rt) := by
  unfold ldOf at hl
  split at hl
  · rename_i t a hop
    simp only [Option.some.injEq] at hl
    subst hl
    simp only [opT, hop] at h ⊢
    simp only at hT
    by_cases hnz : (C.ty t).nz = true
    · rw [if_pos hnz] at h hT ⊢
      rw [hT]
      cases hv : loadAV S.rt (C.ty t) (ev S a) with
      | none => rw [hv] at h; simp [Tr.of, Tr.dec] at h
      | some v2 =>
        rw [hv] at h
        simp only [Option.map_some, Tr.of, Tr.dec, Option.some.injEq, Prod.mk.injEq] at h ⊢
        exact ⟨h.2.symm, trivial⟩
    · rw [if_neg hnz] at hT; simp at hT
  · rename_i t a f hop
    simp only [Option.some.injEq] at hl
    subst hl
    simp only [opT, hop] at h ⊢
    simp only at hT
    rw [hT]
    cases hv : fieldAddrAV S.rt (C.ty t) (ev S a) f with
    | none => rw [hv] at h; simp [Tr.of, Tr.dec] at h
    | some v2 =>
      rw [hv] at h
      simp only [Option.map_some, Tr.of, Tr.dec, Option.some.injEq, Prod.mk.injEq] at h ⊢
      exact ⟨h.2.symm, trivial⟩
  · simp at hl
theorem reloc {S T S' : St} {e : Ent} {β : Bool} {j : Nat} {y : Oper} (hs : stepD C D hints id ops β S j y = some (S', e)) (hl : T.sl.length = S.sl.length) (hrl : T.rt.length = S.rt.length)
    (hk : ∀ u ∈ looksOf ops y, T.get u = S.get u) (ho : ∀ u ∈ overOf ops j y, T.get u = S.get u)
    (hm : (T.rt = S.rt ∧ asksOf T.sl y.dst (id * 256 + j + 1) = asksOf S.sl y.dst (id * 256 + j + 1)) ∨ (e.wr = none ∧ NearE e S.rt T.rt)) :
    ∃ T', stepD C D hints id ops β T j y = some (T', e) ∧ (∀ u ∈ overOf ops j y, T'.get u = S'.get u) ∧ (e.wr = none → S'.rt = S.rt ∧ T'.rt = T.rt) ∧ (T.rt = S.rt → T'.rt = S'.rt) := by
  have hg := guard_near (ops := ops) hk
  have he := ev_near hk
  unfold stepD at hs ⊢
  rw [hg]
  split at hs
  · rename_i hgt
    simp only [Option.map_eq_some_iff, Prod.mk.injEq] at hs
    obtain ⟨⟨v, rt'⟩, hd, hS, hee⟩ := hs
    subst hS
    subst hee
    have hcongr : ∀ {A : Asks} {R : Rts}, opT C D A (ev T) R (id * 256 + j + 1) (hints.share.contains (id, j)) y = opT C D A (ev S) R (id * 256 + j + 1) (hints.share.contains (id, j)) y := op_congr y he
    have hq : wrOf C (ev S) y = none → rt' = S.rt := fun hw => (quiet_dec (T := S) (A' := asksOf S.sl y.dst (id * 256 + j + 1)) hw rfl (fun _ _ => rfl) hd).1
    rcases hm with ⟨hrt, hask⟩ | ⟨hw, hra⟩
    · refine ⟨fin ops ⟨T.sl, rt'⟩ j y v, ?_, fin_near hl ho, fun hw => ?_, fun _ => ?_⟩
      · unfold opAt at hd ⊢
        rw [hask, hcongr, hrt, hd]
        simp only [Option.map_some, ent_near (.inr (.inl ⟨hrt, rfl⟩)) hk ho]
      · rw [fin_rt, fin_rt]
        have := hq hw
        simp only at this ⊢
        exact ⟨this, this.trans hrt.symm⟩
      · rw [fin_rt, fin_rt]
    · have hw' : wrOf C (ev S) y = none := hw
      have hq2 : rt' = S.rt ∧ (opT C D (asksOf T.sl y.dst (id * 256 + j + 1)) (ev S) T.rt (id * 256 + j + 1) (hints.share.contains (id, j)) y).dec β = some (v, T.rt) := by
        rcases hra with hra | hb | ⟨l, h1, h2⟩
        · exact quiet_dec (T := T) (A' := asksOf T.sl y.dst (id * 256 + j + 1)) hw' hrl (hra.sub fun r hr => by simp only [entOf, List.mem_append]; exact .inr (.inl hr)) hd
        · have hb' : blindOp y = true := hb
          exact quiet_dec (T := T) (A' := asksOf T.sl y.dst (id * 256 + j + 1)) hw' hrl (by rw [if_pos hb']; intro r hr; simp at hr) hd
        · exact load_late hd h1 h2
      refine ⟨fin ops ⟨T.sl, T.rt⟩ j y v, ?_, fin_near hl ho, fun _ => ?_, fun hrt => ?_⟩
      · unfold opAt
        rw [hcongr, hq2.2]
        simp only [Option.map_some, ent_near (b := rt') (.inl hw') hk ho]
      · rw [fin_rt, fin_rt]; exact ⟨hq2.1, rfl⟩
      · rw [fin_rt, fin_rt]; exact hrt.trans hq2.1.symm
  · rename_i hgt
    simp only [Option.some.injEq, Prod.mk.injEq] at hs
    obtain ⟨hS, hee⟩ := hs
    subst hS
    subst hee
    refine ⟨fin ops T j y .skip, by rw [skip_near ho], ?_, fun _ => ?_, fun hrt => ?_⟩
    · exact fin_near (S := S) (T := T) (rt := T.rt) (rt' := S.rt) hl ho
    · rw [fin_rt, fin_rt]; exact ⟨rfl, rfl⟩
    · rw [fin_rt, fin_rt]; exact hrt
  · simp at hs
theorem quiet_rt {S S' : St} {e : Ent} {β : Bool} {j : Nat} {y : Oper} (hs : stepD C D hints id ops β S j y = some (S', e)) (hw : e.wr = none) : S'.rt = S.rt := by
  obtain ⟨_, _, _, h, _⟩ := reloc (T := S) hs rfl rfl (fun _ _ => rfl) (fun _ _ => rfl) (.inl ⟨rfl, rfl⟩)
  exact (h hw).1
theorem wr_dst {ρ : Operand → AV} {o : Oper} {W : List Nat} (h : wrOf C ρ o = some W) : ∀ d, o.dst = some d → d ∈ W := by
  intro d hd
  unfold wrOf at h
  simp only [hd, Option.toList_some] at h
  repeat' split at h
  all_goals first
    | (simp only [Option.some.injEq] at h; subst h; simp; done)
    | (simp at h; done)
theorem heavy_rt {S S' : St} {e : Ent} {β : Bool} {j : Nat} {y : Oper} {W : List Nat} (hs : stepD C D hints id ops β S j y = some (S', e)) (hw : e.wr = some W) : Frm W S.rt S'.rt ∧ (∀ d, y.dst = some d → d ∈ W) := by
  unfold stepD at hs
  split at hs
  · simp only [Option.map_eq_some_iff, Prod.mk.injEq] at hs
    obtain ⟨⟨v, rt'⟩, hd, hS, hee⟩ := hs
    subst hS
    subst hee
    have hw' : wrOf C (ev S) y = some W := hw
    rw [fin_rt]
    exact ⟨heavy_frm hw' hd, wr_dst hw'⟩
  · simp only [Option.some.injEq, Prod.mk.injEq] at hs
    obtain ⟨hS, hee⟩ := hs
    subst hee
    simp [entSkip] at hw
  · simp at hs
theorem ent_over {S S' : St} {e : Ent} {β : Bool} {j : Nat} {y : Oper} (hs : stepD C D hints id ops β S j y = some (S', e)) {u : Nat} (hu : u ∈ overOf ops j y) :
    (∀ r ∈ (S.get u).roots, r ∈ e.rd) ∧ (∀ r ∈ (S'.get u).roots, r ∈ e.rd) ∧ (∀ r ∈ (S.get u).stamps, r ∈ e.st) ∧ (∀ r ∈ (S'.get u).stamps, r ∈ e.st) := by
  unfold stepD at hs
  split at hs
  · simp only [Option.map_eq_some_iff, Prod.mk.injEq] at hs
    obtain ⟨⟨v, rt'⟩, hd, hS, hee⟩ := hs
    subst hS
    subst hee
    simp only [entOf, List.mem_append]
    refine ⟨fun r hr => .inr (.inr (mem_rootsAt hu hr)), fun r hr => ?_, fun r hr => .inr (mem_stampsAt hu hr), fun r hr => ?_⟩
    · rw [fin_get] at hr
      split at hr
      · exact .inl hr
      · split at hr
        · simp [AV.roots] at hr
        · exact .inr (.inr (mem_rootsAt hu hr))
    · rw [fin_get] at hr
      split at hr
      · exact .inl hr
      · split at hr
        · simp [AV.stamps] at hr
        · exact .inr (mem_stampsAt hu hr)
  · simp only [Option.some.injEq, Prod.mk.injEq] at hs
    obtain ⟨hS, hee⟩ := hs
    subst hS
    subst hee
    simp only [entSkip]
    refine ⟨fun r hr => mem_rootsAt hu hr, fun r hr => ?_, fun r hr => mem_stampsAt hu hr, fun r hr => ?_⟩
    · rw [fin_get] at hr
      split at hr
      · simp [AV.roots] at hr
      · split at hr
        · simp [AV.roots] at hr
        · exact mem_rootsAt hu hr
    · rw [fin_get] at hr
      split at hr
      · simp [AV.stamps] at hr
      · split at hr
        · simp [AV.stamps] at hr
        · exact mem_stampsAt hu hr
  · simp at hs
theorem step_frame {S S' : St} {e : Ent} {β : Bool} {j : Nat} {y : Oper} (hs : stepD C D hints id ops β S j y = some (S', e)) : S'.sl.length = S.sl.length ∧ ∀ u, u ∉ overOf ops j y → S'.get u = S.get u := by
  refine ⟨?_, fun u hu => (stepD_frame hs hu).1⟩
  unfold stepD at hs
  split at hs
  · simp only [Option.map_eq_some_iff, Prod.mk.injEq] at hs
    obtain ⟨⟨v, rt'⟩, hd, hS, hee⟩ := hs
    subst hS
    rw [fin_len]
  · simp only [Option.some.injEq, Prod.mk.injEq] at hs
    obtain ⟨hS, hee⟩ := hs
    subst hS
    rw [fin_len]
  · simp at hs
theorem asks_over {S S' : St} {e : Ent} {β : Bool} {j : Nat} {y : Oper} (hs : stepD C D hints id ops β S j y = some (S', e)) {d : Option Nat} {s : Nat} {W : List Nat} (hd : ∀ d', d = some d' → d' ∈ W) (hdis : disj W e.rd = true)
    (hst : e.st.contains s = false) : asksOf S'.sl d s = asksOf S.sl d s := by
  obtain ⟨hl, hf⟩ := step_frame hs
  have hst' : s ∉ e.st := by simpa using hst
  refine asks_eq d s hl (fun d' e1 k _ => ?_) (fun d' e1 k _ => ?_) (fun k => ?_)
  · by_cases hk : k ∈ overOf ops j y
    · obtain ⟨h1, h2, _, _⟩ := ent_over hs hk
      have hn := disj_ok hdis d' (hd d' e1)
      have a1 : d' ∉ (S.get k).roots := fun h => hn (h1 _ h)
      have a2 : d' ∉ (S'.get k).roots := fun h => hn (h2 _ h)
      simp only [St.get] at a1 a2
      rw [List.contains_eq_mem, List.contains_eq_mem, decide_eq_false a1, decide_eq_false a2]
    · have := hf k hk; simp only [St.get] at this; rw [this]
  · by_cases hk : k ∈ overOf ops j y
    · obtain ⟨h1, h2, _, _⟩ := ent_over hs hk
      have hn := disj_ok hdis d' (hd d' e1)
      have a1 : d' ∉ (S.get k).roots := fun h => hn (h1 _ h)
      have a2 : d' ∉ (S'.get k).roots := fun h => hn (h2 _ h)
      have b1 := noPl_off _ a1
      have b2 := noPl_off _ a2
      simp only [St.get] at b1 b2
      rw [b1, b2]
    · have := hf k hk; simp only [St.get] at this; rw [this]
  · by_cases hk : k ∈ overOf ops j y
    · obtain ⟨_, _, h1, h2⟩ := ent_over hs hk
      have b1 := stamps_off (s := s) _ (fun h => hst' (h1 _ h))
      have b2 := stamps_off (s := s) _ (fun h => hst' (h2 _ h))
      simp only [St.get] at b1 b2
      rw [b1, b2]
    · have := hf k hk; simp only [St.get] at this; rw [this]
theorem step_site {S S' : St} {e : Ent} {β : Bool} {j : Nat} {y : Oper} (hs : stepD C D hints id ops β S j y = some (S', e)) : e.site = id * 256 + j + 1 ∧ e.i = j := by
  unfold stepD at hs
  split at hs
  · simp only [Option.map_eq_some_iff, Prod.mk.injEq] at hs
    obtain ⟨⟨v, rt'⟩, hd, hS, hee⟩ := hs
    subst hee
    exact ⟨rfl, rfl⟩
  · simp only [Option.some.injEq, Prod.mk.injEq] at hs
    obtain ⟨hS, hee⟩ := hs
    subst hee
    exact ⟨rfl, rfl⟩
  · simp at hs
theorem loadsTo_eq {S : Rts} {l : (Rts → Option AV) × AV} (h : loadsTo S l = true) : l.1 S = some l.2 := by
  have hp : ∀ (p q : Path), pathSame p q = true → p = q := by
    intro p
    induction p with
    | nil => intro q h; cases q <;> simp_all [pathSame]
    | cons x p ih =>
      intro q h
      cases q with
      | nil => cases x <;> simp [pathSame] at h
      | cons y q =>
        cases x <;> cases y <;> simp only [pathSame, Bool.false_eq_true] at h
        · rw [ih q h]
        · rw [ih q h]
  unfold loadsTo at h
  split at h
  · rename_i r p s r' p' s' h1 h2
    simp only [Bool.and_eq_true] at h
    rw [h1, h2, Nat.eq_of_beq_eq_true h.1.1, hp _ _ h.1.2, Nat.eq_of_beq_eq_true h.2]
  · rename_i r p r' p' h1 h2
    simp only [Bool.and_eq_true] at h
    rw [h1, h2, Nat.eq_of_beq_eq_true h.1, hp _ _ h.2]
  · simp at h
theorem io_of {S S' : St} {e : Ent} {β : Bool} {j : Nat} {y : Oper} {W : List Nat} (hs : stepD C D hints id ops β S j y = some (S', e)) (hw : e.wr = some W) : (e.io = none ∨ e.io = some (S.rt, S'.rt)) ∧ e.dst = y.dst := by
  unfold stepD at hs
  split at hs
  · simp only [Option.map_eq_some_iff, Prod.mk.injEq] at hs
    obtain ⟨⟨v, rt'⟩, hd, hS, hee⟩ := hs
    subst hS
    subst hee
    have hw' : wrOf C (ev S) y = some W := hw
    rw [fin_rt]
    simp only [entOf, hw', and_true]
    cases locOp C (ev S) y
    · exact .inr rfl
    · exact .inl rfl
  · simp only [Option.some.injEq, Prod.mk.injEq] at hs
    obtain ⟨hS, hee⟩ := hs
    subst hee
    simp [entSkip] at hw
  · simp at hs
theorem late_of {S S' : St} {e f : Ent} {β : Bool} {j : Nat} {y : Oper} {W : List Nat} (hs : stepD C D hints id ops β S j y = some (S', e)) (hw : e.wr = some W) (h : lateE e f = true) :
    ((f.bl = true ∨ ∃ l, f.ld = some l ∧ l.1 S.rt = some l.2) ∧ (f.bl = true ∨ ∃ l, f.ld = some l ∧ l.1 S'.rt = some l.2)) ∧ disj y.dst.toList f.rd = true ∧ f.st.contains e.site = false := by
  obtain ⟨h1, h2⟩ := io_of hs hw
  unfold lateE at h
  simp only [Bool.and_eq_true, Bool.not_eq_true', Bool.or_eq_true] at h
  obtain ⟨⟨a, c⟩, d⟩ := h
  refine ⟨?_, by rw [← h2]; exact c, d⟩
  rcases a with a | a
  · exact ⟨.inl a, .inl a⟩
  · split at a
    · rename_i l io hl hio
      rcases h1 with h1 | h1
      · rw [h1] at hio; simp at hio
      rw [h1] at hio
      simp only [Option.some.injEq] at hio
      subst hio
      simp only [Bool.and_eq_true] at a
      exact ⟨.inr ⟨l, hl, loadsTo_eq a.1⟩, .inr ⟨l, hl, loadsTo_eq a.2⟩⟩
    · simp at a
theorem wr_read {ρ : Operand → AV} {o : Oper} {W : List Nat} (hw : wrOf C ρ o = some W) (hl : locOp C ρ o = true) : blindOp o = false := by
  unfold wrOf at hw
  unfold blindOp
  cases ho : o.op <;> rw [ho] at hw <;> simp_all
theorem reloc2 {S T S' : St} {e : Ent} {β : Bool} {j : Nat} {y : Oper} {W : List Nat} (hs : stepD C D hints id ops β S j y = some (S', e)) (hw : e.wr = some W) (hlc : e.lc = true) (hl : T.sl.length = S.sl.length) (hrl : T.rt.length = S.rt.length)
    (hk : ∀ u ∈ looksOf ops y, T.get u = S.get u) (ho : ∀ u ∈ overOf ops j y, T.get u = S.get u) (hask : asksOf T.sl y.dst (id * 256 + j + 1) = asksOf S.sl y.dst (id * 256 + j + 1))
    (hr : RAgree (W ++ e.rd) S.rt T.rt) : ∃ T', stepD C D hints id ops β T j y = some (T', e) ∧ (∀ u ∈ overOf ops j y, T'.get u = S'.get u) ∧ RAgree W S'.rt T'.rt := by
  have hg := guard_near (ops := ops) hk
  have he := ev_near hk
  unfold stepD at hs ⊢
  rw [hg]
  split at hs
  · rename_i hgt
    simp only [Option.map_eq_some_iff, Prod.mk.injEq] at hs
    obtain ⟨⟨v, rt'⟩, hd, hS, hee⟩ := hs
    subst hS
    subst hee
    have hw' : wrOf C (ev S) y = some W := hw
    have hlc' : locOp C (ev S) y = true := hlc
    have hb := wr_read hw' hlc'
    unfold opAt at hd ⊢
    obtain ⟨rt2, k1, k2, k3⟩ := op_lk (A := asksOf S.sl y.dst (id * 256 + j + 1)) hr hrl hlc' (fun r hr => by
      refine List.mem_append.2 (.inr ?_)
      simp only [entOf, hb, Bool.false_eq_true, if_false, List.mem_append]
      exact .inr (.inl hr)) v rt' hd
    refine ⟨fin ops ⟨T.sl, rt2⟩ j y v, ?_, fin_near hl ho, ?_⟩
    · rw [hask, op_congr y he, k1]
      simp only [Option.map_some, ent_near (b := rt') (.inr (.inr hlc')) hk ho]
    · rw [fin_rt, fin_rt]; exact k2.sub fun r hr => List.mem_append.2 (.inl hr)
  · simp only [Option.some.injEq, Prod.mk.injEq] at hs
    obtain ⟨hS, hee⟩ := hs
    subst hee
    simp [entSkip] at hw
  · simp at hs
theorem rts_ext {S T : Rts} (hl : T.length = S.length) (h : ∀ r, T.root r = S.root r) : T = S := by
  apply List.ext_getElem hl
  intro i h1 h2
  have := h i
  simp only [Rts.root, List.getD, List.getElem?_eq_getElem h1, List.getElem?_eq_getElem h2, Option.getD_some] at this
  exact this
theorem disj_mem {l l' : List Nat} (h : disj l l' = true) {r : Nat} (hr : r ∈ l') : r ∉ l := fun k => disj_ok h r k hr
theorem swap {S S1 S2 : St} {ex ey : Ent} {βx βy : Bool} {i j : Nat} {x y : Oper} (h1 : stepD C D hints id ops βx S i x = some (S1, ex)) (h2 : stepD C D hints id ops βy S1 j y = some (S2, ey))
    (hap : slotsApart ops i j x y = true) (hfr : ex.free ey = true) : ∃ T1, stepD C D hints id ops βy S j y = some (T1, ey) ∧ stepD C D hints id ops βx T1 i x = some (S2, ex) := by
  simp only [slotsApart, Bool.and_eq_true] at hap
  obtain ⟨⟨p1, p2⟩, p3⟩ := hap
  obtain ⟨l1, f1⟩ := step_frame h1
  obtain ⟨l2, f2⟩ := step_frame h2
  have n1 : ∀ u ∈ looksOf ops y, S.get u = S1.get u := fun u hu => (f1 u fun h => disj_ok p1 u h hu).symm
  have n2 : ∀ u ∈ overOf ops j y, S.get u = S1.get u := fun u hu => (f1 u fun h => disj_ok p2 u h hu).symm
  -- the two moves, and what comes out
  have key : ∀ (hm : (S.rt = S1.rt ∧ asksOf S.sl y.dst (id * 256 + j + 1) = asksOf S1.sl y.dst (id * 256 + j + 1)) ∨ (ey.wr = none ∧ NearE ey S1.rt S.rt)) (hrl : S.rt.length = S1.rt.length),
      ∃ T1, stepD C D hints id ops βy S j y = some (T1, ey) ∧ (ey.wr = none → S2.rt = S1.rt ∧ T1.rt = S.rt) ∧ (S.rt = S1.rt → T1.rt = S2.rt) ∧
        (∀ (hm2 : (T1.rt = S.rt ∧ asksOf T1.sl x.dst (id * 256 + i + 1) = asksOf S.sl x.dst (id * 256 + i + 1)) ∨ (ex.wr = none ∧ NearE ex S.rt T1.rt)) (hrl2 : T1.rt.length = S.rt.length),
          ∃ T2, stepD C D hints id ops βx T1 i x = some (T2, ex) ∧ (ex.wr = none → S1.rt = S.rt ∧ T2.rt = T1.rt) ∧ (T1.rt = S.rt → T2.rt = S1.rt) ∧ (T2.rt = S2.rt → T2 = S2)) := by
    intro hm hrl
    obtain ⟨T1, k1, k2, k3, k4⟩ := reloc h2 l1.symm hrl n1 n2 hm
    refine ⟨T1, k1, k3, k4, fun hm2 hrl2 => ?_⟩
    obtain ⟨lT, fT⟩ := step_frame k1
    obtain ⟨T2, q1, q2, q3, q4⟩ := reloc h1 lT hrl2 (fun u hu => fT u fun h => disj_ok p3 u h hu) (fun u hu => fT u fun h => disj_ok p2 u hu h) hm2
    obtain ⟨lT2, fT2⟩ := step_frame q1
    refine ⟨T2, q1, q3, q4, fun hrt => st_ext (by rw [lT2, lT, l2, l1]) (fun u => ?_) hrt⟩
    by_cases hx : u ∈ overOf ops i x
    · rw [q2 u hx, f2 u fun h => disj_ok p2 u hx h]
    · rw [fT2 u hx]
      by_cases hy : u ∈ overOf ops j y
      · exact k2 u hy
      · rw [fT u hy, f2 u hy, f1 u hx]
  obtain ⟨sx, _⟩ := step_site h1
  obtain ⟨sy, _⟩ := step_site h2
  cases hwx : ex.wr with
  | none =>
    have r1 : S1.rt = S.rt := quiet_rt h1 hwx
    cases hwy : ey.wr with
    | none =>
      obtain ⟨T1, k1, k2, k3, k4⟩ := key (.inr ⟨hwy, .inl fun r _ => by rw [r1]⟩) (by rw [r1])
      obtain ⟨e1, e2⟩ := k2 hwy
      obtain ⟨T2, q1, q2, q3, q4⟩ := k4 (.inr ⟨hwx, .inl fun r _ => by rw [e2]⟩) (by rw [e2])
      have := q4 ((q2 hwx).2.trans (e2.trans (r1.symm.trans e1.symm)))
      subst this
      exact ⟨T1, k1, q1⟩
    | some W =>
      simp only [Ent.free, hwx, hwy, Bool.or_eq_true] at hfr
      rcases hfr with hfr | hfr
      rotate_left
      · obtain ⟨⟨a1, a2⟩, d1, d2⟩ := late_of h2 hwy hfr
        rw [sy] at d2
        obtain ⟨T1, k1, k2, k3, k4⟩ := key (.inl ⟨r1.symm, (asks_over h1 (W := y.dst.toList) (fun d' hd' => by rw [hd']; simp) d1 d2).symm⟩) (by rw [r1])
        obtain ⟨fr, _⟩ := heavy_rt k1 hwy
        have eT := k3 r1.symm
        obtain ⟨T2, q1, q2, q3, q4⟩ := k4 (.inr ⟨hwx, .inr (by rw [eT]; exact a2)⟩) fr.len
        have := q4 ((q2 hwx).2.trans eT)
        subst this
        exact ⟨T1, k1, q1⟩
      simp only [apartE, Bool.and_eq_true, Bool.not_eq_true'] at hfr
      obtain ⟨d1, d2⟩ := hfr
      obtain ⟨_, hdW⟩ := heavy_rt h2 hwy
      rw [sy] at d2
      obtain ⟨T1, k1, k2, k3, k4⟩ := key (.inl ⟨r1.symm, (asks_over h1 hdW d1 d2).symm⟩) (by rw [r1])
      obtain ⟨fr, _⟩ := heavy_rt k1 hwy
      obtain ⟨T2, q1, q2, q3, q4⟩ := k4 (.inr ⟨hwx, .inl fun r hr => fr.root r fun h => disj_ok d1 r h hr⟩) fr.len
      have := q4 ((q2 hwx).2.trans (k3 r1.symm))
      subst this
      exact ⟨T1, k1, q1⟩
  | some W =>
    cases hwy : ey.wr with
    | none =>
      simp only [Ent.free, hwx, hwy, Bool.or_eq_true] at hfr
      rcases hfr with hfr | hfr
      rotate_left
      · obtain ⟨⟨a1, a2⟩, d1, d2⟩ := late_of h1 hwx hfr
        obtain ⟨fr, hdW⟩ := heavy_rt h1 hwx
        rw [sx] at d2
        obtain ⟨T1, k1, k2, k3, k4⟩ := key (.inr ⟨hwy, .inr a1⟩) fr.len.symm
        obtain ⟨e1, e2⟩ := k2 hwy
        obtain ⟨T2, q1, q2, q3, q4⟩ := k4 (.inl ⟨e2, asks_over k1 (W := x.dst.toList) (fun d' hd' => by rw [hd']; simp) d1 d2⟩) (by rw [e2])
        have := q4 ((q3 e2).trans e1.symm)
        subst this
        exact ⟨T1, k1, q1⟩
      simp only [apartE, Bool.and_eq_true, Bool.not_eq_true'] at hfr
      obtain ⟨d1, d2⟩ := hfr
      obtain ⟨fr, hdW⟩ := heavy_rt h1 hwx
      rw [sx] at d2
      obtain ⟨T1, k1, k2, k3, k4⟩ := key (.inr ⟨hwy, .inl fun r hr => (fr.root r fun h => disj_ok d1 r h hr).symm⟩) fr.len.symm
      obtain ⟨e1, e2⟩ := k2 hwy
      obtain ⟨T2, q1, q2, q3, q4⟩ := k4 (.inl ⟨e2, asks_over k1 hdW d1 d2⟩) (by rw [e2])
      have := q4 ((q3 e2).trans e1.symm)
      subst this
      exact ⟨T1, k1, q1⟩
    | some W2 =>
      simp only [Ent.free, hwx, hwy, Bool.and_eq_true, Bool.not_eq_true'] at hfr
      obtain ⟨⟨⟨lx, ly⟩, ⟨d1, d2⟩, d3, d4⟩, s1, s2⟩ := hfr
      obtain ⟨fr1, hd1⟩ := heavy_rt h1 hwx
      obtain ⟨fr2, hd2⟩ := heavy_rt h2 hwy
      rw [sy] at s1
      rw [sx] at s2
      obtain ⟨T1, k1, k2, k3⟩ := reloc2 (T := S) h2 hwy ly l1.symm fr1.len.symm n1 n2 (asks_over h1 hd2 d3 s1).symm
        (fun r hr => (fr1.root r fun h => by
          rcases List.mem_append.1 hr with h' | h'
          · exact disj_ok d2 r h h'
          · exact disj_ok d1 r h h').symm)
      obtain ⟨lT, fT⟩ := step_frame k1
      obtain ⟨frT, _⟩ := heavy_rt k1 hwy
      obtain ⟨T2, q1, q2, q3⟩ := reloc2 h1 hwx lx lT frT.len (fun u hu => fT u fun h => disj_ok p3 u h hu) (fun u hu => fT u fun h => disj_ok p2 u hu h) (asks_over k1 hd1 d1 s2)
        (fun r hr => frT.root r fun h => by
          rcases List.mem_append.1 hr with h' | h'
          · exact disj_ok d4 r h h'
          · exact disj_ok d3 r h h')
      obtain ⟨lT2, fT2⟩ := step_frame q1
      obtain ⟨frT2, _⟩ := heavy_rt q1 hwx
      have hrt : T2.rt = S2.rt := by
        refine rts_ext (by rw [frT2.len, frT.len, fr2.len, fr1.len]) fun r => ?_
        by_cases hx : r ∈ W
        · rw [q3 r hx, fr2.root r fun h => disj_ok d2 r hx h]
        · rw [frT2.root r hx]
          by_cases hy : r ∈ W2
          · exact k3 r hy
          · rw [frT.root r hy, fr2.root r hy, fr1.root r hx]
      have : T2 = S2 := st_ext (by rw [lT2, lT, l2, l1]) (fun u => by
        by_cases hx : u ∈ overOf ops i x
        · rw [q2 u hx, f2 u fun h => disj_ok p2 u hx h]
        · rw [fT2 u hx]
          by_cases hy : u ∈ overOf ops j y
          · exact k2 u hy
          · rw [fT u hy, f2 u hy, f1 u hx]) hrt
      subst this
      exact ⟨T1, k1, q1⟩
end
end Go.V

namespace Go.V
open Go
def BitsOf (look : Nat → Nat) (o : Oper) (i : Nat) : Prop := ∃ e ∈ o.after, Region.binds .any e = true ∧ (e.on = i ∨ (look e.on).testBit i = true)
theorem one_bits (look : Nat → Nat) (i : Nat) : ∀ (l : List Edge) (s : Nat), (l.foldl (fun s e => if Region.binds .any e then s ||| 2 ^ e.on ||| look e.on else s) s).testBit i = true →
    s.testBit i = true ∨ ∃ e ∈ l, Region.binds .any e = true ∧ (e.on = i ∨ (look e.on).testBit i = true)
  | [], s, h => .inl h
  | e :: l, s, h => by
    rw [List.foldl_cons] at h
    rcases one_bits look i l _ h with h | ⟨e', he, hh⟩
    · by_cases hb : Region.binds .any e = true
      · rw [if_pos hb, Nat.testBit_or, Nat.testBit_or, Nat.testBit_two_pow] at h
        simp only [Bool.or_eq_true, decide_eq_true_eq] at h
        rcases h with (h | h) | h
        · exact .inl h
        · exact .inr ⟨e, List.mem_cons_self, hb, .inl h⟩
        · exact .inr ⟨e, List.mem_cons_self, hb, .inr h⟩
      · rw [if_neg hb] at h; exact .inl h
    · exact .inr ⟨e', List.mem_cons_of_mem _ he, hh⟩
def TabOk (acc : Array Nat) (l : List Oper) : Prop := acc.size = l.length ∧ ∀ j i, (acc.getD j 0).testBit i = true → ∃ o, l[j]? = some o ∧ ∃ e ∈ o.after, Region.binds .any e = true ∧ (e.on = i ∨ (e.on < j ∧ (acc.getD e.on 0).testBit i = true))
theorem tab_ok : ∀ (l : List Oper) (acc : Array Nat) (d : List Oper), TabOk acc d →
    TabOk (l.foldl (fun acc o => acc.push (o.after.foldl (fun s e => if Region.binds .any e then s ||| 2 ^ e.on ||| acc.getD e.on 0 else s) 0)) acc) (d ++ l)
  | [], acc, d, h => by simpa using h
  | o :: l, acc, d, h => by
    rw [List.foldl_cons]
    have e : d ++ o :: l = (d ++ [o]) ++ l := by simp
    rw [e]
    refine tab_ok l _ _ ⟨by simp [h.1], fun j i hb => ?_⟩
    have hs := h.1
    have gd : ∀ q (v : Nat), (acc.push v).getD q 0 = if q = acc.size then v else acc.getD q 0 := by
      intro q v
      simp only [Array.getD_eq_getD_getElem?, Array.getElem?_push]
      split <;> rfl
    rw [gd] at hb
    by_cases hj : j = acc.size
    · rw [if_pos hj, ← Array.foldl_toList] at hb
      rcases one_bits (fun n => acc.getD n 0) i _ _ hb with h0 | ⟨e', he, hbd, hh⟩
      · simp at h0
      · refine ⟨o, by rw [hj, hs]; simp, e', by simpa using he, hbd, ?_⟩
        rcases hh with hh | hh
        · exact .inl hh
        · have hlt : e'.on < acc.size := by
            rcases Nat.lt_or_ge e'.on acc.size with h | h
            · exact h
            · simp [Array.getD_eq_getD_getElem?, Array.getElem?_eq_none h] at hh
          refine .inr ⟨by omega, ?_⟩
          rw [gd, if_neg (by omega)]
          exact hh
    · rw [if_neg hj] at hb
      obtain ⟨o', ho', e', he, hbd, hh⟩ := h.2 j i hb
      have hlt : j < d.length := (List.getElem?_eq_some_iff.1 ho').1
      refine ⟨o', by rw [List.getElem?_append_left hlt]; exact ho', e', he, hbd, hh.imp id fun hh => ⟨hh.1, ?_⟩⟩
      rw [gd, if_neg (by omega)]
      exact hh.2
theorem before_ok (ops : Array Oper) {j i : Nat} (h : ((Region.before ops).getD j 0).testBit i = true) :
    ∃ o, ops[j]? = some o ∧ ∃ e ∈ o.after, Region.binds .any e = true ∧ (e.on = i ∨ (e.on < j ∧ ((Region.before ops).getD e.on 0).testBit i = true)) := by
  have := tab_ok ops.toList #[] [] ⟨rfl, fun j i hb => by simp at hb⟩
  unfold Region.before at h ⊢
  rw [← Array.foldl_toList] at h ⊢
  obtain ⟨o, ho, hh⟩ := this.2 j i h
  exact ⟨o, by simpa using ho, hh⟩
theorem before_lt {ops : Array Oper} (he : edgesOk ops = true) : ∀ (j i : Nat), ((Region.before ops).getD j 0).testBit i = true → i < j := by
  intro j
  induction j using Nat.strongRecOn with
  | _ j ih =>
    intro i h
    obtain ⟨o, ho, e, hm, hb, hh⟩ := before_ok ops h
    have hlt : e.on < j := by
      simp only [edgesOk, List.all_eq_true] at he
      have hx : (j, o) ∈ textOf ops := by
        simp only [textOf, List.mem_map]
        exact ⟨(o, j), List.mem_zipIdx_iff_getElem?.2 (by simpa using ho), rfl⟩
      have := he (j, o) hx
      rw [Array.all_eq_true_iff_forall_mem] at this
      have := this e hm
      rw [hb] at this
      simpa [blt_lt] using this
    rcases hh with rfl | ⟨_, hh⟩
    · exact hlt
    · exact Nat.lt_trans (ih e.on hlt i hh) hlt
def Down (ops : Array Oper) (listed : Array Bool) : Prop := ∀ (j : Nat) o, ops[j]? = some o → listed.getD j false = true → ∀ e ∈ o.after, Region.binds .any e = true → listed.getD e.on false = true
theorem before_listed {ops : Array Oper} {listed : Array Bool} (hd : Down ops listed) : ∀ (j i : Nat), ((Region.before ops).getD j 0).testBit i = true →
    (∀ o, ops[j]? = some o → ∀ e ∈ o.after, Region.binds .any e = true → listed.getD e.on false = true) → listed.getD i false = true := by
  intro j
  induction j using Nat.strongRecOn with
  | _ j ih =>
    intro i h hl
    obtain ⟨o, ho, e, hm, hb, hh⟩ := before_ok ops h
    have h1 := hl o ho e hm hb
    rcases hh with rfl | ⟨hlt, hh⟩
    · exact h1
    · exact ih e.on hlt i hh fun o' ho' => hd e.on o' ho' h1
theorem Ent.free_symm (e f : Ent) : e.free f = f.free e := by
  unfold Ent.free
  cases e.wr <;> cases f.wr
  · rfl
  · rfl
  · rfl
  · rename_i w w'
    simp only
    cases e.lc <;> cases f.lc <;> cases disj w f.rd <;> cases disj w w' <;> cases disj w' e.rd <;> cases disj w' w <;> cases e.st.contains f.site <;> cases f.st.contains e.site <;> rfl
theorem freeOne_ok {M : Array Nat} {e : Ent} : ∀ {l : Log}, freeOne M e l = true → ∀ f ∈ l, e.i = f.i ∨ ordered M e.i f.i = true ∨ e.free f = true
  | [], _, f, hf => by simp at hf
  | g :: l, h, f, hf => by
    simp only [freeOne, Bool.and_eq_true, Bool.or_eq_true] at h
    rcases List.mem_cons.1 hf with rfl | hf
    · rcases h.1 with (h | h) | h
      · exact .inl (Nat.eq_of_beq_eq_true h)
      · exact .inr (.inl h)
      · exact .inr (.inr h)
    · exact freeOne_ok h.2 f hf
theorem freeAll_ok {M : Array Nat} {all : Log} : ∀ {l : Log}, freeAll M all l = true → ∀ e ∈ l, e.wr ≠ none → ∀ f ∈ all, e.i = f.i ∨ ordered M e.i f.i = true ∨ e.free f = true
  | [], _, e, he => by simp at he
  | g :: l, h, e, he => by
    simp only [freeAll, Bool.and_eq_true] at h
    intro hw
    rcases List.mem_cons.1 he with rfl | he
    · have := h.1
      cases hwe : e.wr with
      | none => exact absurd hwe hw
      | some W => rw [hwe] at this; exact freeOne_ok this
    · exact freeAll_ok h.2 e he hw
theorem ordered_symm (M : Array Nat) (i j : Nat) : ordered M i j = ordered M j i := by simp [ordered, Bool.or_comm]
theorem free_of {M : Array Nat} {LG : Log} (h : freeAll M LG LG = true) {e f : Ent} (he : e ∈ LG) (hf : f ∈ LG) (hne : e.i ≠ f.i) (ho : ordered M e.i f.i = false) : e.free f = true := by
  cases hwe : e.wr with
  | some W =>
    rcases freeAll_ok h e he (by rw [hwe]; simp) f hf with h | h | h
    · exact absurd h hne
    · rw [ho] at h; simp at h
    · exact h
  | none =>
    cases hwf : f.wr with
    | none => simp [Ent.free, hwe, hwf]
    | some W =>
      rcases freeAll_ok h f hf (by rw [hwf]; simp) e he with h | h | h
      · exact absurd h.symm hne
      · rw [ordered_symm, ho] at h; simp at h
      · rw [Ent.free_symm]; exact h
theorem slotsOne_ok {M : Array Nat} {ops : Array Oper} {i : Nat} {x : Oper} : ∀ {l : List (Nat × Oper)}, slotsOne M ops i x l = true → ∀ y ∈ l, ordered M i y.1 = true ∨ slotsApart ops i y.1 x y.2 = true
  | [], _, y, hy => by simp at hy
  | (j, z) :: l, h, y, hy => by
    simp only [slotsOne, Bool.and_eq_true, Bool.or_eq_true] at h
    rcases List.mem_cons.1 hy with rfl | hy
    · exact h.1
    · exact slotsOne_ok h.2 y hy
theorem slotsAll_ok {M : Array Nat} {ops : Array Oper} : ∀ {l : List (Nat × Oper)}, slotsAll M ops l = true → l.Pairwise fun x y => ordered M x.1 y.1 = true ∨ slotsApart ops x.1 y.1 x.2 y.2 = true
  | [], _ => List.Pairwise.nil
  | (i, x) :: l, h => by
    simp only [slotsAll, Bool.and_eq_true] at h
    exact List.Pairwise.cons (fun y hy => slotsOne_ok h.1 y hy) (slotsAll_ok h.2)
section
variable (C : Ctx) (D : Den C) (hints : Hints) (id : Nat) (ops : Array Oper)
noncomputable def runB (β : Nat → Bool) : List (Nat × Oper) → St → Option (St × Log)
  | [], S => some (S, [])
  | (i, o) :: l, S => (stepD C D hints id ops (β i) S i o).bind fun x => (runB β l x.1).map fun y => (y.1, x.2 :: y.2)
end
section
variable {C : Ctx} {D : Den C} {hints : Hints} {id : Nat} {ops : Array Oper}
theorem runB_eq {β : Nat → Bool} : ∀ (l : List (Nat × Oper)) (S : St), runB C D hints id ops β l S = runD C D hints id ops (l.map fun x => β x.1) l S
  | [], S => rfl
  | (i, o) :: l, S => by
    simp only [runB, runD, List.map_cons, List.headD_cons, List.tail_cons]
    congr 1
    funext x
    rw [runB_eq l x.1]
theorem runB_cons {β : Nat → Bool} {i : Nat} {o : Oper} {l : List (Nat × Oper)} {S S' : St} {lg : Log} (h : runB C D hints id ops β ((i, o) :: l) S = some (S', lg)) :
    ∃ S1 e lg1, stepD C D hints id ops (β i) S i o = some (S1, e) ∧ runB C D hints id ops β l S1 = some (S', lg1) ∧ lg = e :: lg1 := by
  simp only [runB, Option.bind_eq_some_iff, Option.map_eq_some_iff, Prod.mk.injEq] at h
  obtain ⟨⟨S1, e⟩, hs, ⟨S2, lg2⟩, hr, rfl, rfl⟩ := h
  exact ⟨S1, e, lg2, hs, hr, rfl⟩
theorem runB_of {β : Nat → Bool} {i : Nat} {o : Oper} {l : List (Nat × Oper)} {S S1 S' : St} {e : Ent} {lg1 : Log} (hs : stepD C D hints id ops (β i) S i o = some (S1, e)) (hr : runB C D hints id ops β l S1 = some (S', lg1)) :
    runB C D hints id ops β ((i, o) :: l) S = some (S', e :: lg1) := by
  simp only [runB, hs, Option.bind_some, hr, Option.map_some]
theorem runB_agree {β β' : Nat → Bool} : ∀ (l : List (Nat × Oper)) (S : St), (∀ x ∈ l, β' x.1 = β x.1) → runB C D hints id ops β' l S = runB C D hints id ops β l S
  | [], S, _ => rfl
  | (i, o) :: l, S, h => by
    simp only [runB]
    have := h (i, o) List.mem_cons_self
    simp only at this
    rw [this]
    congr 1
    funext x
    rw [runB_agree l x.1 fun y hy => h y (List.mem_cons_of_mem _ hy)]
theorem runB_front {β : Nat → Bool} {j : Nat} {y : Oper} {post : List (Nat × Oper)} : ∀ (pre : List (Nat × Oper)) (S S' : St) (lg : Log), runB C D hints id ops β (pre ++ (j, y) :: post) S = some (S', lg) →
    (∀ x ∈ pre, slotsApart ops x.1 j x.2 y = true) → (∀ ex ∈ lg, ∀ ey ∈ lg, (∃ x ∈ pre, ex.i = x.1) → ey.i = j → ex.free ey = true) →
    ∃ lg', runB C D hints id ops β ((j, y) :: (pre ++ post)) S = some (S', lg') ∧ ∀ e ∈ lg', e ∈ lg
  | [], S, S', lg, h, _, _ => ⟨lg, h, fun e he => he⟩
  | (i, x) :: pre, S, S', lg, h, hap, hfr => by
    rw [List.cons_append] at h
    obtain ⟨S1, ex, lg1, h1, h2, rfl⟩ := runB_cons h
    obtain ⟨lg2, k1, k2⟩ := runB_front pre S1 S' lg1 h2 (fun x hx => hap x (List.mem_cons_of_mem _ hx))
      (fun a ha b hb ⟨z, hz, e⟩ hj => hfr a (List.mem_cons_of_mem _ ha) b (List.mem_cons_of_mem _ hb) ⟨z, List.mem_cons_of_mem _ hz, e⟩ hj)
    obtain ⟨S2, ey, lg3, q1, q2, rfl⟩ := runB_cons k1
    have hi := (step_site h1).2
    have hj := (step_site q1).2
    obtain ⟨T1, t1, t2⟩ := swap h1 q1 (hap (i, x) List.mem_cons_self) (hfr ex List.mem_cons_self ey (List.mem_cons_of_mem _ (k2 ey List.mem_cons_self)) ⟨(i, x), List.mem_cons_self, hi⟩ hj)
    refine ⟨ey :: ex :: lg3, runB_of t1 (runB_of t2 q2), fun e he => ?_⟩
    rcases List.mem_cons.1 he with rfl | he
    · exact List.mem_cons_of_mem _ (k2 _ List.mem_cons_self)
    · rcases List.mem_cons.1 he with rfl | he
      · exact List.mem_cons_self
      · exact List.mem_cons_of_mem _ (k2 _ (List.mem_cons_of_mem _ he))
end
theorem mem_text {ops : Array Oper} {j : Nat} {o : Oper} (h : ops[j]? = some o) : (j, o) ∈ textOf ops := by
  simp only [textOf, List.mem_map]
  exact ⟨(o, j), List.mem_zipIdx_iff_getElem?.2 (by simpa using h), rfl⟩
section
variable {P : Program} {C : Ctx} {D : Den C} (hty : AllTy P C) (dok : DOk P C D)
include hty dok
theorem any_ok {np : List Nat} {Q : Exit → Act → World → Prop} {hints : Hints} {id : Nat} {ops : Array Oper} {F : St → Prop} (hgd : guardsOk ops = true) (hed : edgesOk ops = true) (hsl : slotsAll (Region.before ops) ops (textOf ops) = true) (hnp : opsFrom np ops = true) :
    ∀ (fuel : Nat) (listed : Array Bool) (rest : List (Nat × Oper)) (S : St) (g : Ghost) (a : Act) (w : World), rest.length ≤ fuel → listed.size = ops.size → Down ops listed → rest.Sublist (textOf ops) →
      (∀ x ∈ textOf ops, x ∈ rest ↔ listed.getD x.1 true = false) → StRel w.heap S g a.tmps Nil → a.defers = [] →
      (∀ β, ∃ S' lg LG, runB C D hints id ops β rest S = some (S', lg) ∧ (∀ e ∈ lg, e ∈ LG) ∧ freeAll (Region.before ops) LG LG = true ∧ F S') →
      (∀ S' g' a' w', F S' → StRel w'.heap S' g' a'.tmps Nil → g'.Same g → WFr g.L w w' → a'.defers = [] → Fixed np a a' → Q .normal a' w') → wpAny P .any ops Q fuel listed a w := by
  intro fuel
  induction fuel with
  | zero =>
    intro listed rest S g a w hlen hsz hdn hsub hiff st hdf hrun hQ
    have hr : rest = [] := List.length_eq_zero_iff.1 (by omega)
    subst hr
    refine ⟨?_, ?_⟩
    · apply List.eq_nil_iff_forall_not_mem.2
      intro j hj
      obtain ⟨h0, o, ho, _⟩ := mem_ready.1 hj
      have := (hiff (j, o) (mem_text ho)).2 h0
      simp at this
    · obtain ⟨S', lg, LG, h1, _, _, h4⟩ := hrun fun _ => true
      simp only [runB, Option.some.injEq, Prod.mk.injEq] at h1
      obtain ⟨rfl, _⟩ := h1
      exact hQ S g a w h4 st (.refl g) (.refl _ _) hdf (.refl _ _)
  | succ fuel ih =>
    intro listed rest S g a w hlen hsz hdn hsub hiff st hdf hrun hQ
    have hft : ∀ j, j < ops.size → (listed.getD j true = listed.getD j false) := by
      intro j hj
      have : j < listed.size := by omega
      simp [Array.getD, this]
    refine ⟨fun hre => ?_, fun j hj => ?_⟩
    · have hr : rest = [] := by
        cases rest with
        | nil => rfl
        | cons x rest =>
          exfalso
          have key : ∀ j, j < ops.size → listed.getD j true = true := by
            intro j
            induction j using Nat.strongRecOn with
            | _ j ihj =>
              intro hlt
              cases hl : listed.getD j true with
              | true => rfl
              | false =>
                exfalso
                have ho : ops[j]? = some ops[j] := Array.getElem?_eq_getElem hlt
                have : j ∈ Region.ready .any ops listed := by
                  refine mem_ready.2 ⟨hl, ops[j], ho, fun e he hb => ?_⟩
                  have hlt2 : e.on < j := by
                    have he2 := hed
                    simp only [edgesOk, List.all_eq_true] at he2
                    have := he2 (j, ops[j]) (mem_text ho)
                    rw [Array.all_eq_true_iff_forall_mem] at this
                    have := this e he
                    rw [hb] at this
                    simpa [blt_lt] using this
                  rw [← hft e.on (by omega)]
                  exact ihj e.on hlt2 (by omega)
                rw [hre] at this
                simp at this
          have hx := hsub.subset List.mem_cons_self
          have h0 := (hiff x hx).1 List.mem_cons_self
          have hat := text_at x hx
          have := key x.1 (Array.getElem?_eq_some_iff.1 hat).1
          rw [h0] at this
          simp at this
      subst hr
      obtain ⟨S', lg, LG, h1, _, _, h4⟩ := hrun fun _ => true
      simp only [runB, Option.some.injEq, Prod.mk.injEq] at h1
      obtain ⟨rfl, _⟩ := h1
      exact hQ S g a w h4 st (.refl g) (.refl _ _) hdf (.refl _ _)
    · obtain ⟨h0, y, hy, hedges⟩ := mem_ready.1 hj
      have hjlt : j < ops.size := (Array.getElem?_eq_some_iff.1 hy).1
      have hmem := (hiff (j, y) (mem_text hy)).2 h0
      obtain ⟨pre, post, rfl⟩ := List.append_of_mem hmem
      -- indexes are apart
      have hnd : ((textOf ops).map (·.1)).Nodup := by rw [text_range]; exact List.nodup_range
      have hnd2 := (hsub.map (·.1)).nodup hnd
      simp only [List.map_append, List.map_cons] at hnd2
      have hinc : ((pre ++ (j, y) :: post).map (·.1)).Pairwise (· < ·) := by
        refine List.Pairwise.sublist (hsub.map (·.1)) ?_
        rw [text_range]
        exact List.pairwise_lt_range
      have hlt : ∀ x ∈ pre, x.1 < j := by
        intro x hx
        rw [List.map_append, List.pairwise_append] at hinc
        exact hinc.2.2 x.1 (List.mem_map.2 ⟨x, hx, rfl⟩) j (by simp)
      have hgt : ∀ x ∈ post, j < x.1 := by
        intro x hx
        rw [List.map_append, List.pairwise_append, List.map_cons, List.pairwise_cons] at hinc
        exact hinc.2.1.1 x.1 (List.mem_map.2 ⟨x, hx, rfl⟩)
      have hun : ∀ x ∈ pre, ordered (Region.before ops) x.1 j = false := by
        intro x hx
        have hxt : x ∈ textOf ops := hsub.subset (by simp [hx])
        have hxu := (hiff x hxt).1 (by simp [hx])
        cases ho : ordered (Region.before ops) x.1 j with
        | false => rfl
        | true =>
          exfalso
          simp only [ordered, Bool.or_eq_true] at ho
          rcases ho with ho | ho
          · have := before_listed hdn j x.1 ho fun o' ho' e he hb => by
              rw [hy] at ho'
              simp only [Option.some.injEq] at ho'
              subst ho'
              exact hedges e he hb
            have hxlt : x.1 < ops.size := (Array.getElem?_eq_some_iff.1 (text_at x hxt)).1
            rw [← hft x.1 hxlt, hxu] at this
            simp at this
          · have := before_lt hed _ _ ho
            have := hlt x hx
            omega
      have hap : ∀ x ∈ pre, slotsApart ops x.1 j x.2 y = true := by
        intro x hx
        have := (slotsAll_ok hsl).sublist hsub
        rw [List.pairwise_append] at this
        rcases this.2.2 x hx (j, y) (by simp) with h | h
        · have := hun x hx
          simp only at h
          rw [this] at h
          simp at h
        · exact h
      have hrun2 : ∀ β, ∃ S1 e S' lg LG, stepD C D hints id ops (β j) S j y = some (S1, e) ∧ runB C D hints id ops β (pre ++ post) S1 = some (S', lg) ∧ (∀ e ∈ lg, e ∈ LG) ∧ freeAll (Region.before ops) LG LG = true ∧ F S' := by
        intro β
        obtain ⟨S', lg, LG, h1, h2, h3, h4⟩ := hrun β
        obtain ⟨lg', q1, q2⟩ := runB_front pre S S' lg h1 hap (by
          intro ex hex ey hey hx hyj
          obtain ⟨x, hx, e1⟩ := hx
          refine free_of h3 (h2 ex hex) (h2 ey hey) ?_ ?_
          · rw [e1, hyj]; have := hlt x hx; omega
          · rw [e1, hyj]; exact hun x hx)
        obtain ⟨S1, e, lg1, t1, t2, rfl⟩ := runB_cons q1
        exact ⟨S1, e, S', lg1, LG, t1, t2, fun e he => h2 e (q2 e (List.mem_cons_of_mem _ he)), h3, h4⟩
      refine step_ok hty dok st (hints := hints) (id := id) hy (fun j' c => guards_ok hgd j y j' c hy) hdf (ops_from hnp (j, y) (mem_text hy)) (fun β => ?_) ?_
      · obtain ⟨S1, e, _, _, _, h1, _⟩ := hrun2 fun _ => β
        exact ⟨_, h1⟩
      · intro βj S1 e a' w' g' hs st' hsm hfr hdf' hfx
        refine ih (listed.setIfInBounds j true) (pre ++ post) S1 g' a' w' ?_ (by simpa using hsz) ?_ ?_ ?_ st' hdf' ?_ ?_
        · simp only [List.length_append, List.length_cons] at hlen ⊢; omega
        · intro q o hq hlq e he hb
          by_cases hqj : j = q
          · subst hqj
            rw [hy] at hq
            simp only [Option.some.injEq] at hq
            subst hq
            exact getD_set_true (hedges e he hb)
          · rw [getD_set_ne false hqj] at hlq
            exact getD_set_true (hdn q o hq hlq e he hb)
        · exact List.Sublist.trans (List.Sublist.append (List.Sublist.refl pre) (List.sublist_cons_self _ _)) hsub
        · intro x hx
          have hx1 := hiff x hx
          by_cases hxj : x.1 = j
          · constructor
            · intro hm
              exfalso
              rcases List.mem_append.1 hm with hm | hm
              · have := hlt x hm; omega
              · have := hgt x hm; omega
            · intro h
              exfalso
              have hl2 : j < listed.size := by omega
              simp [hxj, Array.getD, hl2] at h
          · rw [getD_set_ne true (fun h => hxj h.symm), ← hx1]
            simp only [List.mem_append, List.mem_cons]
            constructor
            · rintro (h | h)
              · exact .inl h
              · exact .inr (.inr h)
            · rintro (h | h | h)
              · exact .inl h
              · exact absurd (by rw [h]) hxj
              · exact .inr h
        · intro β
          obtain ⟨S1', e', S', lg, LG, h1, h2, h3⟩ := hrun2 fun n => if n = j then βj else β n
          simp only [if_true] at h1
          rw [hs] at h1
          simp only [Option.some.injEq, Prod.mk.injEq] at h1
          obtain ⟨rfl, rfl⟩ := h1
          refine ⟨S', lg, LG, ?_, h3⟩
          rw [← h2]
          symm
          refine runB_agree _ _ fun x hx => ?_
          rw [if_neg]
          intro hxj
          rcases List.mem_append.1 hx with hm | hm
          · have := hlt x hm; omega
          · have := hgt x hm; omega
        · intro S' g'' a'' w'' hF st'' hsm' hfr' hdf'' hfx'
          exact hQ S' g'' a'' w'' hF st'' (hsm.trans hsm') (hfr.trans (by rw [hsm.2.1] at hfr'; exact hfr')) hdf'' (hfx.trans hfx')
theorem draw_wp {np : List Nat} {R : Type} {r : R} {H : Hints} {id : Nat} {ops : Array Oper} {S : St} {k : Ex → St → Option R} {Q : Exit → Act → World → Prop} {g : Ghost} {a : Act} {w : World} {n : Nat}
    (hmix : P.follows .mixedOrders = true) (hnp : opsFrom np ops = true) (h : exec C D H n (.region id ops true) S k = some r) : Goes np P C Q r (.region id ops true) S k g a w := by
  intro st hdf hQ
  simp only [exec] at h
  split at h
  · rename_i hgd
    have hR := fun βs => region_ok (hints := H) _ _ _ _ h S (Sim.refl S) βs
    have hchk : edgesOk ops = true ∧ slotsAll (Region.before ops) ops (textOf ops) = true := by
      obtain ⟨T1, lgT, S1, lg1, _, q2, _⟩ := hR []
      simp only [if_true] at q2
      split at q2
      · rename_i hc
        simp only [Bool.and_eq_true] at hc
        exact ⟨hc.1.1, hc.2⟩
      · simp at q2
    refine wp_region_any hmix ?_
    refine any_ok (hints := H) (id := id) (F := fun S' => ∃ S1, k .normal S1 = some r ∧ Sim S1 S') hty dok hgd hchk.1 hchk.2 hnp ops.size _ (textOf ops) S g a _ ?_ (by simp) ?_ (List.Sublist.refl _) ?_ st hdf (fun β => ?_) ?_
    · have := congrArg List.length (text_range (ops := ops))
      simp only [List.length_map, List.length_range] at this
      omega
    · intro j o ho hl
      exfalso
      have hlt := (Array.getElem?_eq_some_iff.1 ho).1
      simp [hlt] at hl
    · intro x hx
      have hlt := (Array.getElem?_eq_some_iff.1 (text_at x hx)).1
      simp [hx, hlt]
    · obtain ⟨T1, lgT, S1, lg1, q1, q2, q3, q4, _⟩ := hR ((textOf ops).map fun x => β x.1)
      simp only [if_true] at q2
      split at q2
      · rename_i hc
        simp only [Bool.and_eq_true] at hc
        exact ⟨T1, lgT, lg1, by rw [runB_eq]; exact q1, q4, hc.1.2, S1, q2, q3⟩
      · simp at q2
    · intro S' g' a' w' hF st' hsm hfr hdf' hfx
      obtain ⟨S1, hk, hsim⟩ := hF
      exact hQ .normal S1 g' a' w' hk (sim_rel hsim st') hsm ((WFr.drawn _).trans hfr) hdf' hfx
  · simp at h
theorem exec_ok {np : List Nat} {R : Type} {r : R} {H : Hints} (hmix : P.follows .mixedOrders = true) : ∀ (c : Code) (n : Nat) (S : St) (k : Ex → St → Option R), codeFrom np c = true → exec C D H n c S k = some r →
    ∀ (Q : Exit → Act → World → Prop) (g : Ghost) (a : Act) (w : World), Goes np P C Q r c S k g a w
  | .skip, n, S, k, hc, h, Q, g, a, w => by
    intro st hdf hQ
    exact wp_skip (hQ .normal S g a w (by simpa only [exec] using h) st (.refl g) (.refl _ _) hdf (.refl _ _))
  | .region id ops dr, n, S, k, hc, h, Q, g, a, w => by
    cases dr with
    | false => exact region_wp hty dok hc h
    | true => exact draw_wp hty dok hmix hc h
  | .seq x y, n, S, k, hc, h, Q, g, a, w => by
    intro st hdf hQ
    simp only [codeFrom, Bool.and_eq_true] at hc
    simp only [exec] at h
    refine wp_seq (exec_ok hmix x n S _ hc.1 h _ g a w st hdf ?_)
    intro e S' g' a' w' hk st' hsm hfr hdf' hfx
    cases e with
    | normal =>
      simp only [Ex.out, Exit.then]
      refine exec_ok hmix y n S' k hc.2 hk Q g' a' w' st' hdf' ?_
      intro e2 S2 g2 a2 w2 hk2 st2 hsm2 hfr2 hdf2 hfx2
      exact hQ e2 S2 g2 a2 w2 hk2 st2 (hsm.trans hsm2) (hfr.trans (by rw [hsm.2.1] at hfr2; exact hfr2)) hdf2 (hfx.trans hfx2)
    | exit id => exact hQ (.exit id) S' g' a' w' hk st' hsm hfr hdf' hfx
    | ret => exact hQ .ret S' g' a' w' hk st' hsm hfr hdf' hfx
  | .cond c x y, n, S, k, hc, h, Q, g, a, w => by
    intro st hdf hQ
    simp only [exec] at h
    cases hb : V.asBool (ev S c) with
    | none => rw [hb] at h; simp at h
    | some t =>
      rw [hb] at h
      simp only at h
      have hv := asBool_ok hb (ev_ok st c)
      refine wp_cond (t := t) hv ?_
      cases t with
      | true => exact exec_ok hmix x n S k (by simp only [codeFrom, Bool.and_eq_true] at hc; exact hc.1) h Q g a w st hdf hQ
      | false => exact exec_ok hmix y n S k (by simp only [codeFrom, Bool.and_eq_true] at hc; exact hc.2) h Q g a w st hdf hQ
  | .block id x, n, S, k, hc, h, Q, g, a, w => by
    intro st hdf hQ
    simp only [exec] at h
    refine wp_block (exec_ok hmix x n S _ (by simpa only [codeFrom] using hc) h _ g a w st hdf ?_)
    intro e S' g' a' w' hk st' hsm hfr hdf' hfx
    cases e with
    | normal => exact hQ .normal S' g' a' w' hk st' hsm hfr hdf' hfx
    | exit j =>
      simp only at hk
      simp only [Ex.out, Exit.inBlock]
      split at hk
      · rename_i hj; rw [if_pos hj]; exact hQ .normal S' g' a' w' hk st' hsm hfr hdf' hfx
      · rename_i hj; rw [if_neg hj]; exact hQ (.exit j) S' g' a' w' hk st' hsm hfr hdf' hfx
    | ret => exact hQ .ret S' g' a' w' hk st' hsm hfr hdf' hfx
  | .loop x, n, S, k, hc, h, Q, g, a, w => by
    intro st hdf hQ
    simp only [exec] at h
    cases hl : H.keep.lookup (firstReg x) with
    | none => rw [hl] at h; simp at h
    | some kp =>
      rw [hl] at h
      simp only at h
      have key : ∀ (m : Nat) (S : St) (g1 : Ghost) (a1 : Act) (w1 : World), loopK (exec C D H n x) (St.canon kp.1 kp.2.2) (St.canon kp.2.1 kp.2.2) m S k = some r → StRel w1.heap S g1 a1.tmps Nil → g1.Same g → WFr g.L w w1 → a1.defers = [] → Fixed np a a1 →
          ∀ b k' cs, ∃ e a' w', Q e a' w' ∧ Arrives P (lone (b.at a1 (.code x :: .inLoop x :: k')) cs w1) b k' cs e a' w' := by
        intro m
        induction m with
        | zero => intro S g1 a1 w1 h; simp [loopK] at h
        | succ m ih =>
          intro S g1 a1 w1 h st hsm hfr hdf hfx b k' cs
          simp only [loopK] at h
          have hx := exec_ok hmix x n _ _ (by simpa only [codeFrom] using hc) h (Exit.then (fun a' w' => ∀ b k' cs, ∃ e a'' w'', Q e a'' w'' ∧ Arrives P (lone (b.at a' (.code x :: .inLoop x :: k')) cs w') b k' cs e a'' w'') Q) g1 a1 w1 (canon_ok st kp.1 kp.2.2) hdf (by
            intro e S' g' a' w' hk st' hsm' hfr' hdf' hfx'
            have hfx2 := hfx.trans hfx'
            have hsm2 := hsm.trans hsm'
            have hfr2 : WFr g.L w w' := hfr.trans (by rw [hsm.2.1] at hfr'; exact hfr')
            cases e with
            | normal => exact ih S' g' a' w' hk st' hsm2 hfr2 hdf' hfx2
            | exit id => exact hQ (.exit id) _ g' a' w' hk (canon_ok st' kp.2.1 kp.2.2) hsm2 hfr2 hdf' hfx2
            | ret => exact hQ .ret _ g' a' w' hk (canon_ok st' kp.2.1 kp.2.2) hsm2 hfr2 hdf' hfx2)
          obtain ⟨e, a₁, w₁, hq, harr⟩ := hx b (.inLoop x :: k') cs
          cases e with
          | normal =>
            obtain ⟨e₂, a₂, w₂, hq₂, harr₂⟩ := hq b k' cs
            exact ⟨e₂, a₂, w₂, hq₂, .of_steps (Steps.trans harr (.one step_inLoop)) harr₂⟩
          | exit id => exact ⟨_, a₁, w₁, hq, .pass (x := .inLoop x) rfl (fun _ _ => .inl (by simp)) harr⟩
          | goto l => exact ⟨_, a₁, w₁, hq, .pass (x := .inLoop x) rfl (fun _ _ => .inl (by simp)) harr⟩
          | ret => exact ⟨_, a₁, w₁, hq, .pass (x := .inLoop x) rfl (fun _ _ => .inl (by simp)) harr⟩
          | panic ch => exact ⟨_, a₁, w₁, hq, .pass (x := .inLoop x) rfl (fun _ _ => .inl (by simp)) harr⟩
          | outgrown => exact ⟨_, a₁, w₁, hq, .pass (x := .inLoop x) rfl (fun _ _ => .inl (by simp)) harr⟩
      intro b k' cs
      obtain ⟨e, a', w', hq, harr⟩ := key n S g a w h st (.refl g) (.refl _ _) hdf (.refl _ _) b k' cs
      exact ⟨e, a', w', hq, .of_steps (.one step_loop) harr⟩
  | .exit id, n, S, k, hc, h, Q, g, a, w => by
    intro st hdf hQ
    exact wp_exit (hQ (.exit id) S g a w (by simpa only [exec] using h) st (.refl g) (.refl _ _) hdf (.refl _ _))
  | .ret, n, S, k, hc, h, Q, g, a, w => by
    intro st hdf hQ
    exact wp_ret (hQ .ret S g a w (by simpa only [exec] using h) st (.refl g) (.refl _ _) hdf (.refl _ _))
  | .rangeFunc _ _ _ _, n, S, k, hc, h, Q, g, a, w => by simp [exec] at h
  | .scope _, n, S, k, hc, h, Q, g, a, w => by simp [exec] at h
  | .label _, n, S, k, hc, h, Q, g, a, w => by simp [exec] at h
  | .goto _, n, S, k, hc, h, Q, g, a, w => by simp [exec] at h
  | .refuse _, n, S, k, hc, h, Q, g, a, w => by simp [exec] at h
end
end Go.V

namespace Go.V
open Go
theorem PtrRel.mono {h : Array Obj} {Pr Pr2 : BS} {t : Ty} {m : Mk} {x : t.den} {v : Value} {F : BS} (hp : Sub Pr Pr2) (r : PtrRel h Pr t m x v F) : PtrRel h Pr2 t m x v F := by
  obtain ⟨b, c, F0, e, r, k⟩ := r
  exact ⟨b, c, F0, e, Rep.mono hp (fun _ _ => rfl) t r (Sub.refl _) (fun _ _ => rfl), k⟩
theorem RRel.mono {h : Array Obj} {Pr Pr2 : BS} {k : RK} {x : k.den} {v : Value} {F : BS} (hp : Sub Pr Pr2) (r : RRel h Pr k x v F) : RRel h Pr2 k x v F := by
  cases k with
  | val t m => exact ValRel.mono hp r
  | ptr t m => exact PtrRel.mono hp r
def resOp (tmps : Array Value) : ResultVar → Sem Value
  | .tmp t => pure (tmps.getD t Go.undef)
  | .cell a t => do loadVar t (← asAddr (tmps.getD a Go.undef))
theorem results_of {fn : Func} {tmps : Array Value} {P : Program} {w : World} {us : List Value} (h : (fn.results.toList.mapM (resOp tmps)).run P w = .ok us w) : (results fn tmps).run P w = .ok (resVal us) w := by
  have e : results fn tmps = (do let vs ← fn.results.mapM (resOp tmps); pure (if h : vs.size = 1 then vs[0] else .tuple vs)) := by
    unfold results resOp
    rfl
  rw [e, Array.mapM_eq_mapM_toList]
  simp only [Sem.run_bind, Sem.run_map, h, Result.andThen_ok]
  match us with
  | [] => simp [resVal]
  | [v] => simp [resVal]
  | u :: v :: l => simp [resVal]
section
variable {P : Program} {C : Ctx}
theorem run_loadR {w : World} {t : TypeId} (k : TyOk P C t) (hz : (C.ty t).nz = true) {b o : Nat} {c : List Value} (hr : w.rangeAt b o c) (hl : c.length = (C.ty t).width) :
    (do loadVar t (← asAddr (.pointer (some ⟨b, o, none⟩))) : Sem Value).run P w = .ok (mkV (C.ty t) c) w := by
  have := run_loadT (P := P) k hz hr hl
  simpa only [Instr.loadAt, Instr.sureAddr, asAddr] using this
theorem loadH (hty : AllTy P C) {w : World} {S : St} {g : Ghost} {tmps : Array Value} {H : BS} (st : StRel w.heap S g tmps H) {t : TypeId} (hz : (C.ty t).nz = true) {a v' : AV} {va : Value}
    (ha : AVRel w.heap S g a va) (hl : loadAV S.rt (C.ty t) a = some v') : ∃ u, (do loadVar t (← asAddr va) : Sem Value).run P w = .ok u w ∧ AVRel w.heap S g v' u := by
  have k := hty t hz
  cases a with
  | raddr t' y =>
    simp only [loadAV] at hl
    cases hc : castTo t' (C.ty t) y with
    | none => rw [hc] at hl; simp at hl
    | some z =>
      rw [hc] at hl
      simp only [AVRel] at ha
      obtain ⟨b, off, cs, e, hp, hb, hs, rep⟩ := ha
      have hw := Rep.width t' rep
      obtain ⟨e1, rep2⟩ := Rep.cast hc rep
      subst e1
      have hrun := run_loadR (P := P) (w := w) k hz (rangeAt_sub hb hs) hw
      refine ⟨_, by rw [e]; exact hrun, ?_⟩
      simp at hl
      subst hl
      simp only [AVRel]; exact ⟨_, rep2, rfl⟩
  | addr r p =>
    simp only [loadAV] at hl
    cases hf : S.rt.focus r p with
    | none => rw [hf] at hl; simp at hl
    | some d =>
      rw [hf] at hl
      simp only at hl
      by_cases hd : d.ty = C.ty t
      · simp only [hd, if_true] at hl
        have hf' := hf
        simp only [Rts.focus] at hf'
        split at hf'
        · rename_i R hR
          obtain ⟨b, off, c, hin, hat, e⟩ := addr_okH st hR hf' ha
          obtain ⟨base, c', F, q1, q2, q3, q4, q5⟩ := st.update hR hf' hin
          rw [hat] at q1
          simp only [Option.some.injEq, Prod.mk.injEq] at q1
          obtain ⟨rfl, rfl⟩ := q1
          obtain ⟨_, cs, ho1, hs, hsub⟩ := q4 b off rfl
          have hw := Rep.width d.ty q2
          have hrange : w.rangeAt b off c := by
            have := rangeAt_sub (w := w) ho1.blk hs
            rw [hsub] at this; exact this
          have hrun := run_loadR (P := P) k hz hrange (by rw [hw, hd])
          obtain ⟨dt, dm, dx⟩ := d
          simp only at hd
          subst hd
          refine ⟨_, by rw [e]; exact hrun, ?_⟩
          simp only [Option.some.injEq] at hl
          subst hl
          exact AVC.rel q2 (avOf_ok hR _ _ _ p (some (b, off)) c F hf' hin hat q2) (Ty.nz_unit hz)
        · simp at hf'
      · rw [if_neg hd] at hl; simp at hl
  | _ => simp [loadAV] at hl
theorem resAV_ok (hty : AllTy P C) {w : World} {S : St} {g : Ghost} {tmps : Array Value} {H : BS} (st : StRel w.heap S g tmps H) {v : ResultVar} {a : AV} (h : resAV C S v = some a) :
    ∃ u, (resOp tmps v).run P w = .ok u w ∧ AVRel w.heap S g a u := by
  cases v with
  | tmp t =>
    simp only [resAV, Option.some.injEq] at h
    subst h
    exact ⟨_, by simp only [resOp, Sem.run_pure], st.slots t⟩
  | cell x t =>
    simp only [resAV] at h
    split at h
    · rename_i hz
      exact loadH hty st hz (st.slots x) h
    · simp at h
theorem ptr_out {h : Array Obj} {S : St} {g : Ghost} {tmps : Array Value} {H : BS} (st : StRel h S g tmps H) {q : Nat} {R : Root} (hR : S.root q = some R) (hm : R.mem = true) {t : Ty} {m : Mk} {x : t.den} {v : Value}
    (hs : m.serves R.ms = true) (hc : castTo R.ty t R.x = some x) (hv : AVRel h S g (.addr q []) v) :
    ∃ g' F, StRel h (S.setRoot q none) g' tmps (Un H F) ∧ PtrRel h g'.Pr t m x v F ∧ Dis F H ∧ g'.Same g ∧ Sub g.Pr g'.Pr := by
  obtain ⟨F, r1, r2, r3, r4, _⟩ := st.roots q R hR
  obtain ⟨b, hb1, hb2, hb3⟩ := r4 hm
  have hq : (S.root q).isSome := by rw [hR]; rfl
  have s1 := st.dropRootH hq
  obtain ⟨_, rx⟩ := Rep.cast hc r1
  obtain ⟨F1, F2, q1, q2, q3, q4⟩ := Rep.serves t hs rx
  have s2 := s1.shareHand F2 (fun z hz => .inr (r2 z (q2 z hz)))
  obtain ⟨b', off, c, hin, hat, e⟩ := addr_okH st hR (p := []) (d := ⟨R.ty, R.ms, R.x⟩) (by simp only [focus]) hv
  have hat' : atP h R.ty (g.C q) (g.base q) [] = some (g.base q, g.C q) := by cases R.ty <;> rfl
  rw [hat'] at hat
  simp only [Option.some.injEq, Prod.mk.injEq, Ghost.base, hb1, Option.map_some] at hat
  obtain ⟨⟨rfl, rfl⟩, rfl⟩ := hat
  refine ⟨{ g with Pr := Un g.Pr F2 }, fun z => F1 z ∨ z = b, s2.lessHand ?_, ⟨b, g.C q, F1, e, q4, hb3, .inr rfl, fun z hz => .inl hz, fun hz => r3 b hb1 (q1 b hz)⟩, ?_, ⟨rfl, rfl, rfl⟩, fun z hz => .inl hz⟩
  · rintro z (hz | hz | rfl)
    · exact ⟨.inl hz, fun h2 => st.hand q hq z (r2 z (q2 z h2)) hz⟩
    · exact ⟨.inr (r2 z (q1 z hz)), fun h2 => q3 z hz h2⟩
    · exact ⟨.inr hb2, fun h2 => r3 z hb1 (q2 z h2)⟩
  · rintro z (hz | rfl) hh
    · exact st.hand q hq z (r2 z (q1 z hz)) hh
    · exact st.hand q hq z hb2 hh
theorem gather_ok (hty : AllTy P C) {w : World} {tmps : Array Value} : ∀ (rs : List RK) (vs : List ResultVar) (S : St) (g : Ghost) (H : BS) (i : Nat) (r : RDen rs) (S' : St), StRel w.heap S g tmps H → gather C rs vs S = some (r, S') →
    ∃ us g' H' Gs, (vs.mapM (resOp tmps)).run P w = .ok us w ∧ StRel w.heap S' g' tmps H' ∧ g'.Same g ∧ Sub g.Pr g'.Pr ∧ RsRel w.heap g'.Pr Gs i rs r us ∧ (∀ j, j < i → Gs j = Nil) ∧
      (∀ j, Sub (Gs j) H') ∧ (∀ j k, j ≠ k → Dis (Gs j) (Gs k)) ∧ (∀ j, Dis (Gs j) H) ∧ Sub H H'
  | [], [], S, g, H, i, r, S', st, h => by
    simp only [gather, Option.some.injEq, Prod.mk.injEq] at h
    obtain ⟨_, rfl⟩ := h
    exact ⟨[], g, H, fun _ => Nil, by simp, st, .refl g, Sub.refl _, rfl, fun _ _ => rfl, fun _ => Sub.nil _, fun _ _ _ => Dis.nil _, fun _ => Dis.nil _, Sub.refl _⟩
  | [], _ :: _, S, g, H, i, r, S', st, h => by simp [gather] at h
  | k :: _, [], S, g, H, i, r, S', st, h => by cases k <;> simp [gather] at h
  | k :: ks, v :: vs, S, g, H, i, r, S', st, h => by
    -- one
    have one : ∃ u S1 x g1 F rr, (resOp tmps v).run P w = .ok u w ∧ StRel w.heap S1 g1 tmps (Un H F) ∧ RRel w.heap g1.Pr k x u F ∧ Dis F H ∧ g1.Same g ∧ Sub g.Pr g1.Pr ∧ gather C ks vs S1 = some (rr, S') ∧ r = (x, rr) := by
      cases k with
      | val t m =>
        simp only [gather, Option.bind_eq_some_iff] at h
        obtain ⟨a, ha, ⟨mx, x, rt'⟩, htk, h⟩ := h
        split at h
        · rename_i hs
          simp only [Option.bind_eq_some_iff, Option.some.injEq, Prod.mk.injEq] at h
          obtain ⟨⟨rr, S2⟩, hg, rfl, rfl⟩ := h
          obtain ⟨u, hu, hav⟩ := resAV_ok hty st ha
          obtain ⟨c, g2, F, ev, tk1⟩ := tk_ok _ st htk hav
          obtain ⟨F1, F2, q1, q2, q3, q4⟩ := Rep.serves t hs tk1.rep
          have s2 := tk1.st.shareHand F2 (fun z hz => .inr (q2 z hz))
          refine ⟨u, _, x, _, F1, rr, hu, s2.lessHand ?_, ⟨c, q4, ev⟩, fun z hz hh => tk1.dis z (q1 z hz) hh, Ghost.Same.trans tk1.same ⟨rfl, rfl, rfl⟩, fun z hz => .inl (tk1.pr z hz), hg, rfl⟩
          rintro z (hz | hz)
          · exact ⟨.inl hz, fun h2 => tk1.dis z (q2 z h2) hz⟩
          · exact ⟨.inr (q1 z hz), fun h2 => q3 z hz h2⟩
        · simp at h
      | ptr t m =>
        simp only [gather] at h
        split at h
        · rename_i q ha
          split at h
          · rename_i R hR
            split at h
            · rename_i hs
              simp only [Option.bind_eq_some_iff, Option.some.injEq, Prod.mk.injEq] at h
              obtain ⟨x, hc, ⟨rr, S2⟩, hg, rfl, rfl⟩ := h
              obtain ⟨u, hu, hav⟩ := resAV_ok hty st ha
              obtain ⟨g1, F, p1, p2, p3, p4, p5⟩ := ptr_out st hR hs.1 hs.2 hc hav
              exact ⟨u, _, x, g1, F, rr, hu, p1, p2, p3, p4, p5, hg, rfl⟩
            · simp at h
          · simp at h
        · simp at h
    obtain ⟨u, S1, x, g1, F, rr, hu, p1, p2, p3, p4, p5, hg, rfl⟩ := one
    obtain ⟨us, g', H', Gs, k1, k2, k3, k4, k5, k6, k7, k8, k9, k10⟩ := gather_ok hty ks vs S1 g1 _ (i + 1) rr S' p1 hg
    refine ⟨u :: us, g', H', fun j => if j = i then F else Gs j, ?_, k2, p4.trans k3, p5.trans k4, ?_, ?_, ?_, ?_, ?_, fun z hz => k10 z (.inl hz)⟩
    · simp [List.mapM_cons, hu, k1]
    · refine ⟨u, us, rfl, ?_, ?_⟩
      · show RRel w.heap g'.Pr k x u (if i = i then F else Gs i)
        rw [if_pos rfl]
        exact p2.mono k4
      · have : ∀ (ks : List RK) (n : Nat) {a : RDen ks} {us : List Value}, i < n → RsRel w.heap g'.Pr Gs n ks a us → RsRel w.heap g'.Pr (fun j => if j = i then F else Gs j) n ks a us := by
          intro ks
          induction ks with
          | nil => intro n a us _ h; exact h
          | cons k ks ih =>
            intro n a us hn h
            obtain ⟨v, vs', e, r1, r2⟩ := h
            exact ⟨v, vs', e, by show RRel _ _ _ _ _ (if n = i then F else Gs n); rw [if_neg (by omega)]; exact r1, ih (n + 1) (by omega) r2⟩
        exact this ks (i + 1) (by omega) k5
    · intro j hj; show (if j = i then F else Gs j) = Nil; rw [if_neg (by omega)]; exact k6 j (by omega)
    · intro j z hz
      split at hz
      · exact k10 z (.inr hz)
      · exact k7 j z hz
    · intro j k hjk z h1 h2
      split at h1 <;> split at h2
      · omega
      · exact k9 k z h2 (.inr h1)
      · exact k9 j z h1 (.inr h2)
      · exact k8 j k hjk z h1 h2
    · intro j z h1 h2
      split at h1
      · exact p3 z h1 h2
      · exact k9 j z h1 (.inl h2)
end
end Go.V

namespace Go.V
open Go
def hdc (hd : Nat → Value) (n w : Nat) : List Value := (List.range w).map fun k => hd (n + k)
theorem hdc_add (hd : Nat → Value) (n a b : Nat) : hdc hd n (a + b) = hdc hd n a ++ hdc hd (n + a) b := by
  simp only [hdc, List.range_add, List.map_append, List.map_map]
  congr 1
  apply List.map_congr_left
  intro k _
  simp [Nat.add_assoc]
theorem hdc_len (hd : Nat → Value) (n w : Nat) : (hdc hd n w).length = w := by simp [hdc]
theorem tag_snd : ∀ (t : Ty) (m : Mk) (n : Nat), headed t m = true → (m.tag n).2 = n + t.width
  | .sl _, .own _ _, n, _ => rfl
  | .pair a b, .pr x y, n, h => by
    simp only [headed, Bool.and_eq_true] at h
    simp only [Mk.tag, Ty.width]
    rw [tag_snd b y _ h.2, tag_snd a x _ h.1]
    omega
  | .unit, .no, _, _ => rfl
  | .unit, .gone, _, h => by simp [headed] at h
  | .unit, .own _ _, _, h => by simp [headed] at h
  | .unit, .pr _ _, _, h => by simp [headed] at h
  | .int _, m, _, h => by cases m <;> simp [headed] at h
  | .bool, m, _, h => by cases m <;> simp [headed] at h
  | .str, m, _, h => by cases m <;> simp [headed] at h
  | .sl _, .no, _, h => by simp [headed] at h
  | .sl _, .gone, _, h => by simp [headed] at h
  | .sl _, .pr _ _, _, h => by simp [headed] at h
  | .pair _ _, .no, _, h => by simp [headed] at h
  | .pair _ _, .gone, _, h => by simp [headed] at h
  | .pair _ _, .own _ _, _, h => by simp [headed] at h
theorem tag_no : ∀ (t : Ty) (m : Mk) (n : Nat), headed t m = true → (m.tag n).1.same .no = true → t.width = 0
  | .sl _, .own _ _, n, _, h => by simp [Mk.tag, Mk.same] at h
  | .pair a b, .pr x y, n, hh, h => by
    simp only [headed, Bool.and_eq_true] at hh
    simp only [Mk.tag, Mk.same, Bool.and_eq_true] at h
    simp only [Ty.width, tag_no a x n hh.1 h.1, tag_no b y _ hh.2 h.2]
  | .unit, _, _, _, _ => rfl
  | .int _, m, _, h, _ => by cases m <;> simp [headed] at h
  | .bool, m, _, h, _ => by cases m <;> simp [headed] at h
  | .str, m, _, h, _ => by cases m <;> simp [headed] at h
  | .sl _, .no, _, h, _ => by simp [headed] at h
  | .sl _, .gone, _, h, _ => by simp [headed] at h
  | .sl _, .pr _ _, _, h, _ => by simp [headed] at h
  | .pair _ _, .no, _, h, _ => by simp [headed] at h
  | .pair _ _, .gone, _, h, _ => by simp [headed] at h
  | .pair _ _, .own _ _, _, h, _ => by simp [headed] at h
theorem same_cells {hd : Nat → Value} : ∀ (t : Ty) (m : Mk) (n : Nat) (m' : Mk) (c : List Value), headed t m = true → 1048576 ≤ n → (m.tag n).1.same m' = true → TagC hd t m' c → c.length = t.width → c = hdc hd n t.width
  | .sl _, .own _ _, n, m', c, _, hn, hs, ht, hl => by
    simp only [Mk.tag, Mk.same] at hs
    split at hs
    · rename_i s' mi'
      simp only [decide_eq_true_eq] at hs
      subst hs
      simp only [TagC] at ht
      rw [ht.1 hn]
      rfl
    · simp at hs
  | .pair a b, .pr x y, n, m', c, h, hn, hs, ht, hl => by
    simp only [headed, Bool.and_eq_true] at h
    simp only [Mk.tag, Mk.same] at hs
    split at hs
    · rename_i c1 d1
      simp only [Bool.and_eq_true] at hs
      simp only [TagC, Mk.fst, Mk.snd] at ht
      simp only [Ty.width] at hl ⊢
      rw [tag_snd a x n h.1] at hs
      have e1 := same_cells a x n c1 _ h.1 hn hs.1 ht.1 (by simp; omega)
      have e2 := same_cells b y (n + a.width) d1 _ h.2 (by omega) hs.2 ht.2 (by simp; omega)
      rw [hdc_add, ← e1, ← e2, List.take_append_drop]
    · simp only [Bool.and_eq_true] at hs
      simp only [Ty.width] at hl ⊢
      rw [tag_no a x n h.1 hs.1, tag_no b y _ h.2 hs.2] at hl ⊢
      exact List.length_eq_zero_iff.1 hl
    · simp at hs
  | .unit, _, _, _, c, _, _, _, _, hl => List.length_eq_zero_iff.1 hl
  | .int _, m, _, _, _, h, _, _, _, _ => by cases m <;> simp [headed] at h
  | .bool, m, _, _, _, h, _, _, _, _ => by cases m <;> simp [headed] at h
  | .str, m, _, _, _, h, _, _, _, _ => by cases m <;> simp [headed] at h
  | .sl _, .no, _, _, _, h, _, _, _, _ => by simp [headed] at h
  | .sl _, .gone, _, _, _, h, _, _, _, _ => by simp [headed] at h
  | .sl _, .pr _ _, _, _, _, h, _, _, _, _ => by simp [headed] at h
  | .pair _ _, .no, _, _, _, h, _, _, _, _ => by simp [headed] at h
  | .pair _ _, .gone, _, _, _, h, _, _, _, _ => by simp [headed] at h
  | .pair _ _, .own _ _, _, _, _, h, _, _, _, _ => by simp [headed] at h
theorem tag_tagC {hd : Nat → Value} : ∀ (t : Ty) (m : Mk) (n : Nat), headed t m = true → m.tagFree = true → TagC hd t (m.tag n).1 (hdc hd n t.width)
  | .sl _, .own _ _, n, _, hf => by
    simp only [Mk.tagFree, Bool.and_eq_true] at hf
    simp only [Mk.tag, TagC]
    exact ⟨fun _ => rfl, hf.2⟩
  | .pair a b, .pr x y, n, h, hf => by
    simp only [headed, Bool.and_eq_true] at h
    simp only [Mk.tagFree, Bool.and_eq_true] at hf
    simp only [Mk.tag, TagC, Mk.fst, Mk.snd, Ty.width, hdc_add]
    rw [tag_snd a x n h.1, List.take_left' (hdc_len _ _ _), List.drop_left' (hdc_len _ _ _)]
    exact ⟨tag_tagC a x n h.1 hf.1, tag_tagC b y _ h.2 hf.2⟩
  | .unit, _, _, _, _ => by simp only [TagC]
  | .int _, m, _, h, _ => by cases m <;> simp [headed] at h
  | .bool, m, _, h, _ => by cases m <;> simp [headed] at h
  | .str, m, _, h, _ => by cases m <;> simp [headed] at h
  | .sl _, .no, _, h, _ => by simp [headed] at h
  | .sl _, .gone, _, h, _ => by simp [headed] at h
  | .sl _, .pr _ _, _, h, _ => by simp [headed] at h
  | .pair _ _, .no, _, h, _ => by simp [headed] at h
  | .pair _ _, .gone, _, h, _ => by simp [headed] at h
  | .pair _ _, .own _ _, _, h, _ => by simp [headed] at h
theorem tag_rep {h : Array Obj} {Pr : BS} : ∀ (t : Ty) (m : Mk) (n : Nat) {x : t.den} {c : List Value} {F : BS}, headed t m = true → Rep h Pr t m x c F → Rep h Pr t (m.tag n).1 x c F
  | .sl _, .own _ _, n, _, _, _, _, r => by
    simp only [Mk.tag, Rep] at r ⊢
    exact r
  | .pair a b, .pr x y, n, _, _, _, hh, r => by
    simp only [headed, Bool.and_eq_true] at hh
    simp only [Mk.tag, Rep, Mk.fst, Mk.snd] at r ⊢
    obtain ⟨ca, cb, Fa, Fb, e, ra, rb, k⟩ := r
    exact ⟨ca, cb, Fa, Fb, e, tag_rep a x _ hh.1 ra, tag_rep b y _ hh.2 rb, k⟩
  | .unit, m, n, _, _, _, h, r => by simpa only [Rep] using r
  | .int _, m, _, _, _, _, h, _ => by cases m <;> simp [headed] at h
  | .bool, m, _, _, _, _, h, _ => by cases m <;> simp [headed] at h
  | .str, m, _, _, _, _, h, _ => by cases m <;> simp [headed] at h
  | .sl _, .no, _, _, _, _, h, _ => by simp [headed] at h
  | .sl _, .gone, _, _, _, _, h, _ => by simp [headed] at h
  | .sl _, .pr _ _, _, _, _, _, h, _ => by simp [headed] at h
  | .pair _ _, .no, _, _, _, _, h, _ => by simp [headed] at h
  | .pair _ _, .gone, _, _, _, _, h, _ => by simp [headed] at h
  | .pair _ _, .own _ _, _, _, _, _, h, _ => by simp [headed] at h
def MvOk (hd : Nat → Value) : Nat → List PK → List Value → Prop
  | i, .mutv t m _ :: ks, v :: vs => (v = mkV t (hdc hd (1048576 + 64 * i) t.width) ∧ headed t m = true) ∧ MvOk hd (i + 1) ks vs
  | i, .mutp _ _ _ :: ks, _ :: vs => MvOk hd (i + 1) ks vs
  | i, .val _ :: ks, _ :: vs => MvOk hd (i + 1) ks vs
  | i, .own _ _ :: ks, _ :: vs => MvOk hd (i + 1) ks vs
  | i, .rptr _ :: ks, _ :: vs => MvOk hd (i + 1) ks vs
  | i, .fn :: ks, _ :: vs => MvOk hd (i + 1) ks vs
  | _, _, _ => True
theorem val_out {h : Array Obj} {S : St} {g : Ghost} {tmps : Array Value} {H : BS} (st : StRel h S g tmps H) {q : Nat} {R : Root} (hR : S.root q = some R) {t : Ty} {m : Mk} {x : t.den}
    (hs : m.serves R.ms = true) (hc : castTo R.ty t R.x = some x) :
    ∃ g' F, StRel h (S.setRoot q none) g' tmps (Un H F) ∧ ValRel h g'.Pr t m x (mkV t (g.C q)) F ∧ Dis F H ∧ g'.Same g ∧ Sub g.Pr g'.Pr := by
  obtain ⟨F, r1, r2, r3, r4, _⟩ := st.roots q R hR
  have hq : (S.root q).isSome := by rw [hR]; rfl
  have s1 := st.dropRootH hq
  obtain ⟨_, rx⟩ := Rep.cast hc r1
  obtain ⟨F1, F2, q1, q2, q3, q4⟩ := Rep.serves t hs rx
  have s2 := s1.shareHand F2 (fun z hz => .inr (r2 z (q2 z hz)))
  refine ⟨{ g with Pr := Un g.Pr F2 }, F1, s2.lessHand ?_, ⟨g.C q, q4, rfl⟩, ?_, ⟨rfl, rfl, rfl⟩, fun z hz => .inl hz⟩
  · rintro z (hz | hz)
    · exact ⟨.inl hz, fun h2 => st.hand q hq z (r2 z (q2 z h2)) hz⟩
    · exact ⟨.inr (r2 z (q1 z hz)), fun h2 => q3 z hz h2⟩
  · intro z hz hh
    exact st.hand q hq z (r2 z (q1 z hz)) hh
theorem OsRel.shift {h : Array Obj} {Pr : BS} {Os Os2 : Nat → BS} : ∀ (ks : List PK) (i : Nat) {o : ODen ks} {vs : List Value}, (∀ j, i ≤ j → Os2 j = Os j) → OsRel h Pr Os i ks o vs → OsRel h Pr Os2 i ks o vs
  | [], _, _, _, _, r => r
  | .mutp t _ m :: ks, i, _, _, hj, r => by
    obtain ⟨v, vs', e, r1, r2⟩ := r
    exact ⟨v, vs', e, by rw [hj i (Nat.le_refl _)]; exact r1, OsRel.shift ks (i + 1) (fun j h => hj j (by omega)) r2⟩
  | .mutv t _ m :: ks, i, _, _, hj, r => by
    obtain ⟨v, vs', e, r1, r2⟩ := r
    exact ⟨v, vs', e, by rw [hj i (Nat.le_refl _)]; exact r1, OsRel.shift ks (i + 1) (fun j h => hj j (by omega)) r2⟩
  | .val _ :: ks, i, _, _, hj, r => by obtain ⟨v, vs', e, r2⟩ := r; exact ⟨v, vs', e, OsRel.shift ks (i + 1) (fun j h => hj j (by omega)) r2⟩
  | .own _ _ :: ks, i, _, _, hj, r => by obtain ⟨v, vs', e, r2⟩ := r; exact ⟨v, vs', e, OsRel.shift ks (i + 1) (fun j h => hj j (by omega)) r2⟩
  | .rptr _ :: ks, i, _, _, hj, r => by obtain ⟨v, vs', e, r2⟩ := r; exact ⟨v, vs', e, OsRel.shift ks (i + 1) (fun j h => hj j (by omega)) r2⟩
  | .fn :: ks, i, _, _, hj, r => by obtain ⟨v, vs', e, r2⟩ := r; exact ⟨v, vs', e, OsRel.shift ks (i + 1) (fun j h => hj j (by omega)) r2⟩
structure OutR (h : Array Obj) (g : Ghost) (tmps : Array Value) (H : BS) (ks : List PK) (i : Nat) (o : ODen ks) (vs : List Value) (g' : Ghost) (H' : BS) (Os : Nat → BS) : Prop where
  st : ∃ S', StRel h S' g' tmps H'
  same : g'.Same g
  pr : Sub g.Pr g'.Pr
  rel : OsRel h g'.Pr Os i ks o vs
  nil : ∀ j, j < i → Os j = Nil
  sub : ∀ j, Sub (Os j) H'
  dis : ∀ j k, j ≠ k → Dis (Os j) (Os k)
  disH : ∀ j, Dis (Os j) H
  hand : Sub H H'
theorem fixed_sub {i j : Nat} {k : PK} {ks : List PK} (h : j ∈ fixedSlots (i + 1) ks) : j ∈ fixedSlots i (k :: ks) := by
  cases k <;> simp only [fixedSlots, List.mem_cons] <;> first | exact h | exact .inr h
theorem outs_ok {Hh : Hints} {h : Array Obj} {tmps : Array Value} : ∀ (ks : List PK) (i : Nat) (vs : List Value) (S : St) (g : Ghost) (H : BS) (o : ODen ks), StRel h S g tmps H → outs Hh i ks S = some o →
    (∀ k v, vs[k]? = some v → i + k ∈ fixedSlots i ks → tmps.getD (i + k) Go.undef = v) → vs.length = ks.length → MvOk g.hd i ks vs → ∃ g' H' Os, OutR h g tmps H ks i o vs g' H' Os
  | [], i, vs, S, g, H, o, st, ho, hv, hl, hm => by
    refine ⟨g, H, fun _ => Nil, ⟨S, st⟩, .refl g, Sub.refl _, List.length_eq_zero_iff.1 hl, fun _ _ => rfl, fun _ => Sub.nil _, fun _ _ _ => Dis.nil _, fun _ => Dis.nil _, Sub.refl _⟩
  | k :: ks, i, [], S, g, H, o, st, ho, hv, hl, hm => by simp at hl
  | k :: ks, i, v :: vs, S, g, H, o, st, ho, hv, hl, hm => by
    have hv' : ∀ k v, vs[k]? = some v → i + 1 + k ∈ fixedSlots (i + 1) ks → tmps.getD (i + 1 + k) Go.undef = v := by
      intro k u hk hm
      have := hv (k + 1) u (by simpa using hk) (by rw [show i + (k + 1) = i + 1 + k by omega]; exact fixed_sub hm)
      rw [← this]; congr 1; omega
    have hl' : vs.length = ks.length := by simpa using hl
    -- one that comes back
    have back : ∀ (t : Ty) (x : t.den) (oo : ODen ks) (S1 : St) (g1 : Ghost) (F : BS) (rel : BS → BS → Prop), StRel h S1 g1 tmps (Un H F) → (∀ Pr, Sub g1.Pr Pr → rel Pr F) → Dis F H → g1.Same g → Sub g.Pr g1.Pr →
        outs Hh (i + 1) ks S1 = some oo → MvOk g.hd (i + 1) ks vs →
        ∃ g' H' Os, (∃ S', StRel h S' g' tmps H') ∧ g'.Same g ∧ Sub g.Pr g'.Pr ∧ rel g'.Pr (Os i) ∧ OsRel h g'.Pr Os (i + 1) ks oo vs ∧ (∀ j, j < i → Os j = Nil) ∧ (∀ j, Sub (Os j) H') ∧
          (∀ j k, j ≠ k → Dis (Os j) (Os k)) ∧ (∀ j, Dis (Os j) H) ∧ Sub H H' := by
      intro t x oo S1 g1 F rel s1 hrel hd hsm hp ho hm
      obtain ⟨g', H', Os, q⟩ := outs_ok ks (i + 1) vs S1 g1 _ oo s1 ho hv' hl' (by rw [hsm.1]; exact hm)
      refine ⟨g', H', fun j => if j = i then F else Os j, q.st, hsm.trans q.same, hp.trans q.pr, ?_, ?_, ?_, ?_, ?_, ?_, fun z hz => q.hand z (.inl hz)⟩
      · show rel g'.Pr (if i = i then F else Os i)
        rw [if_pos rfl]; exact hrel _ q.pr
      · exact OsRel.shift ks (i + 1) (fun j hj => by show (if j = i then F else Os j) = Os j; rw [if_neg (by omega)]) q.rel
      · intro j hj; show (if j = i then F else Os j) = Nil; rw [if_neg (by omega)]; exact q.nil j (by omega)
      · intro j z hz
        split at hz
        · exact q.hand z (.inr hz)
        · exact q.sub j z hz
      · intro j k hjk z h1 h2
        split at h1 <;> split at h2
        · omega
        · exact q.disH k z h2 (.inr h1)
        · exact q.disH j z h1 (.inr h2)
        · exact q.dis j k hjk z h1 h2
      · intro j z h1 h2
        split at h1
        · exact hd z h1 h2
        · exact q.disH j z h1 (.inl h2)
    cases k with
    | val t =>
      obtain ⟨g', H', Os, q⟩ := outs_ok ks (i + 1) vs S g H o st (by simpa only [outs] using ho) hv' hl' (by simpa only [MvOk] using hm)
      exact ⟨g', H', Os, q.st, q.same, q.pr, ⟨v, vs, rfl, q.rel⟩, fun j hj => q.nil j (by omega), q.sub, q.dis, q.disH, q.hand⟩
    | own t m =>
      obtain ⟨g', H', Os, q⟩ := outs_ok ks (i + 1) vs S g H o st (by simpa only [outs] using ho) hv' hl' (by simpa only [MvOk] using hm)
      exact ⟨g', H', Os, q.st, q.same, q.pr, ⟨v, vs, rfl, q.rel⟩, fun j hj => q.nil j (by omega), q.sub, q.dis, q.disH, q.hand⟩
    | rptr t =>
      obtain ⟨g', H', Os, q⟩ := outs_ok ks (i + 1) vs S g H o st (by simpa only [outs] using ho) hv' hl' (by simpa only [MvOk] using hm)
      exact ⟨g', H', Os, q.st, q.same, q.pr, ⟨v, vs, rfl, q.rel⟩, fun j hj => q.nil j (by omega), q.sub, q.dis, q.disH, q.hand⟩
    | fn =>
      obtain ⟨g', H', Os, q⟩ := outs_ok ks (i + 1) vs S g H o st (by simpa only [outs] using ho) hv' hl' (by simpa only [MvOk] using hm)
      exact ⟨g', H', Os, q.st, q.same, q.pr, ⟨v, vs, rfl, q.rel⟩, fun j hj => q.nil j (by omega), q.sub, q.dis, q.disH, q.hand⟩
    | mutp t m0 m' =>
      simp only [outs] at ho
      split at ho
      · rename_i qq hslot
        split at ho
        · rename_i R hR
          split at ho
          · rename_i hs
            simp only [Option.bind_eq_some_iff, Option.some.injEq] at ho
            obtain ⟨x, hc, oo, ho, rfl⟩ := ho
            have hv0 : tmps.getD i Go.undef = v := by have := hv 0 v rfl (by simp [fixedSlots]); simpa using this
            have hav := st.slots i
            rw [hslot, hv0] at hav
            obtain ⟨g1, F, p1, p2, p3, p4, p5⟩ := ptr_out st hR hs.1 hs.2 hc hav
            obtain ⟨g', H', Os, k1, k2, k3, k4, k5, k6⟩ := back t x oo _ g1 F (fun Pr F => PtrRel h Pr t m' x v F) p1 (fun Pr hp => p2.mono hp) p3 p4 p5 ho (by simpa only [MvOk] using hm)
            exact ⟨g', H', Os, k1, k2, k3, ⟨v, vs, rfl, k4, k5⟩, k6.1, k6.2.1, k6.2.2.1, k6.2.2.2.1, k6.2.2.2.2⟩
          · simp at ho
        · simp at ho
      · simp at ho
    | mutv t m0 m' =>
      simp only [outs] at ho
      split at ho
      · rename_i R hR
        split at ho
        · rename_i hs
          simp only [Option.bind_eq_some_iff, Option.some.injEq] at ho
          obtain ⟨x, hc, oo, ho, rfl⟩ := ho
          simp only [MvOk] at hm
          obtain ⟨⟨ev, hh⟩, hm⟩ := hm
          obtain ⟨g1, F, p1, p2, p3, p4, p5⟩ := val_out st hR hs.1 hc
          have hcell : g.C ((Hh.outs.lookup i).getD i) = hdc g.hd (1048576 + 64 * i) t.width := by
            obtain ⟨F0, r1, _⟩ := st.roots _ R hR
            have ht := st.tag _ R hR
            obtain ⟨e, _⟩ := castTo_some hc
            have hw := Rep.width _ r1
            rw [e] at ht hw
            exact same_cells t m0 _ _ _ hh (by omega) hs.2 ht hw
          rw [hcell, ← ev] at p2
          obtain ⟨g', H', Os, k1, k2, k3, k4, k5, k6⟩ := back t x oo _ g1 F (fun Pr F => ValRel h Pr t m' x v F) p1 (fun Pr hp => p2.mono hp) p3 p4 p5 ho hm
          exact ⟨g', H', Os, k1, k2, k3, ⟨v, vs, rfl, k4, k5⟩, k6.1, k6.2.1, k6.2.2.1, k6.2.2.2.1, k6.2.2.2.2⟩
        · simp at ho
      · simp at ho
end Go.V

namespace Go.V
open Go
theorem avOf_roots (r : Nat) : ∀ (t : Ty) (m : Mk) (x : t.den) (p : Path), ∀ q ∈ (avOf r t m x p).roots, q = r
  | .unit, _, _, _, q, h => by simp [avOf, AV.roots] at h
  | .int _, _, _, _, q, h => by simp [avOf, AV.roots] at h
  | .bool, _, _, _, q, h => by simp [avOf, AV.roots] at h
  | .str, _, _, _, q, h => by simp [avOf, AV.roots] at h
  | .pair a b, m, x, p, q, h => by
    unfold avOf at h
    split at h
    · simp [AV.roots] at h
    · simp only [AV.roots, List.mem_append] at h
      rcases h with h | h
      · exact avOf_roots r a _ _ _ q h
      · exact avOf_roots r b _ _ _ q h
  | .sl t, m, x, p, q, h => by cases m <;> simp [avOf, AV.roots] at h; exact h
theorem setIf_same {tmps : Array Value} {i : Nat} {v : Value} (h : tmps.getD i Go.undef = v) : tmps.setIfInBounds i v = tmps := by
  apply Array.ext_getElem?
  intro j
  rw [Array.getElem?_setIfInBounds]
  by_cases e : i = j
  · subst e
    rw [if_pos rfl]
    by_cases hl : i < tmps.size
    · rw [if_pos hl]
      simp only [Array.getD_eq_getD_getElem?, Array.getElem?_eq_getElem hl, Option.getD_some] at h
      rw [Array.getElem?_eq_getElem hl, h]
    · rw [if_neg hl, Array.getElem?_eq_none (by omega)]
  · rw [if_neg e]
theorem enter_ok {h : Array Obj} {tmps : Array Value} {Pr : BS} {Fs : Nat → BS} (hdis : ∀ i j, i ≠ j → Dis (Fs i) (Fs j)) : ∀ (ks : List PK) (i : Nat) (a : PDen ks) (vs : List Value) (S : St) (g : Ghost) (H : BS), StRel h S g tmps H →
    PsRel h Pr Fs i ks a vs → g.Pr = Pr → (∀ k v, vs[k]? = some v → tmps.getD (i + k) Go.undef = v) → (∀ u r, r ∈ (S.get u).roots → r < i) → ks.all PK.enterOk = true → (∀ j, i ≤ j → Sub (Fs j) H) →
    i + ks.length ≤ tmps.size → MvOk g.hd i ks vs → ∃ g' H', StRel h (enter S i ks a) g' tmps H' ∧ g'.Pr = Pr ∧ g'.Same g
  | [], i, a, vs, S, g, H, st, hps, hpr, hv, hb, hok, hH, hl, hm => ⟨g, H, st, hpr, .refl g⟩
  | k :: ks, i, a, vs, S, g, H, st, hps, hpr, hv, hb, hok, hH, hl, hm => by
    obtain ⟨v, vs', rfl, r1, r2⟩ := hps
    simp only [List.all_cons, Bool.and_eq_true] at hok
    simp only [List.length_cons] at hl
    have hv' : ∀ k v, vs'[k]? = some v → tmps.getD (i + 1 + k) Go.undef = v := by
      intro k u hk
      have := hv (k + 1) u (by simpa using hk)
      rw [← this]; congr 1; omega
    have hv0 : tmps.getD i Go.undef = v := by have := hv 0 v rfl; simpa using this
    have hil : i < S.rt.length := by rw [st.rlen]; omega
    -- the slot, and on
    have go : ∀ (S1 : St) (g1 : Ghost) (H1 : BS) (av : AV), StRel h S1 g1 tmps H1 → g1.Pr = Pr → g1.Same g → AVRel h S1 g1 av v → (∀ r ∈ av.roots, r = i) → (∀ u r, r ∈ (S1.get u).roots → r < i) →
        (∀ j, i + 1 ≤ j → Sub (Fs j) H1) → MvOk g.hd (i + 1) ks vs' → ∃ g' H', StRel h (enter (S1.set i av) (i + 1) ks a.2) g' tmps H' ∧ g'.Pr = Pr ∧ g'.Same g := by
      intro S1 g1 H1 av s1 hp1 hs1 hav hr hb1 hH1 hm1
      have s2 := s1.setSlot i hav
      rw [setIf_same hv0] at s2
      obtain ⟨g', H', k1, k2, k3⟩ := enter_ok hdis ks (i + 1) a.2 vs' (S1.set i av) g1 H1 s2 r2 hp1 hv' (by
        intro u r hr'
        rw [St.get_set] at hr'
        split at hr'
        · have := hr r hr'; omega
        · have := hb1 u r hr'; omega) hok.2 hH1 (by omega) (by rw [hs1.1]; exact hm1)
      exact ⟨g', H', k1, k2, hs1.trans k3⟩
    -- a root, the slot, and on
    have root : ∀ (t : Ty) (m : Mk) (x : t.den) (c : List Value), t.nz = true → Rep h Pr t m x c (Fs i) → v = mkV t c → TagC g.hd t m c → MvOk g.hd (i + 1) ks vs' →
        ∃ g' H', StRel h (enter ((S.setRoot i (some ⟨t, m, x, false⟩)).set i (avOf i t m x [])) (i + 1) ks a.2) g' tmps H' ∧ g'.Pr = Pr ∧ g'.Same g := by
      intro t m x c hz rep ev htg hm1
      obtain ⟨g1, s1, p1, p2, p3, p4, _⟩ := st.newRoot hil (by rw [hpr]; exact rep) htg (hH i (Nat.le_refl _)) none (fun b hb => by simp at hb) (fun u => .inl (by
        cases hc : (S.get u).roots.contains i with
        | false => rfl
        | true => have := hb u i (by simpa using hc); omega))
      have hroot : (S.setRoot i (some ⟨t, m, x, false⟩)).root i = some ⟨t, m, x, false⟩ := by rw [St.root_setRoot]; simp [hil]
      have hat : atP h t c (g1.base i) [] = some (g1.base i, c) := by cases t <;> rfl
      refine go _ g1 _ _ s1 (p1.trans hpr) p2 ?_ (avOf_roots i t m x []) (fun u r hr => hb u r hr) ?_ hm1
      · rw [ev]
        have rep2 : Rep h g1.Pr t m x c (Fs i) := by rw [p1, hpr]; exact rep
        refine AVC.rel rep2 (avOf_ok hroot t m x [] (g1.base i) c (Fs i) (by simp only [focus]) (by simp only [inR]) ?_ rep2) (Ty.nz_unit hz)
        rw [p3]; exact hat
      · intro j hj b hb'
        exact ⟨hH j (by omega) b hb', fun h2 => hdis j i (by omega) b hb' h2, by simp⟩
    cases k with
    | val t =>
      simp only [enter]
      refine go S g H _ st hpr (.refl g) ?_ (by simp [AV.roots]) hb (fun j hj => hH j (by omega)) (by simpa only [MvOk] using hm)
      obtain ⟨c, rep, e⟩ := r1
      simp only [AVRel]; exact ⟨c, by rw [hpr]; exact rep, e⟩
    | rptr t =>
      simp only [enter]
      refine go S g H _ st hpr (.refl g) ?_ (by simp [AV.roots]) hb (fun j hj => hH j (by omega)) (by simpa only [MvOk] using hm)
      simp only [AVRel]
      obtain ⟨b, o, cs, e1, e2, e3⟩ := r1
      exact ⟨b, o, cs, e1, by rw [hpr]; exact e2, by rw [hpr]; exact e3⟩
    | fn =>
      simp only [enter]
      refine go S g H _ st hpr (.refl g) ?_ (by simp [AV.roots]) hb (fun j hj => hH j (by omega)) (by simpa only [MvOk] using hm)
      obtain ⟨us, e, hc⟩ := r1
      simp only [AVRel]
      refine ⟨us, e, ?_⟩
      have : ∀ (l : List CapV) (us : List Value), CapsOk h (PG Pr) l us → CapsOk h g l us := by
        intro l
        induction l with
        | nil => intro us h; exact h
        | cons x l ih =>
          intro us hh
          simp only [CapsOk] at hh ⊢
          obtain ⟨u, us', e, h1, h2⟩ := hh
          refine ⟨u, us', e, ?_, ih us' h2⟩
          cases x with
          | val t y => simp only [CapOk] at h1 ⊢; rw [hpr]; exact h1
          | rptr t y =>
            simp only [CapOk] at h1 ⊢
            obtain ⟨b, o, cs, e1, e2, e3⟩ := h1
            exact ⟨b, o, cs, e1, by rw [hpr]; exact e2, by rw [hpr]; exact e3⟩
      exact this _ us hc
    | own t m =>
      simp only [enter]
      simp only [PK.enterOk, Bool.and_eq_true] at hok
      obtain ⟨c, rep, e⟩ := r1
      exact root t m a.1 c hok.1.1 rep e (TagC.tagFree t hok.1.2) (by simpa only [MvOk] using hm)
    | mutv t m m' =>
      simp only [enter]
      simp only [PK.enterOk, Bool.and_eq_true] at hok
      simp only [MvOk] at hm
      obtain ⟨c, rep, e⟩ := r1
      have hc : c = hdc g.hd (1048576 + 64 * i) t.width := by
        have e2 := e.symm.trans hm.1.1
        have h1 := mkV_cells rep
        rw [e2] at h1
        rw [← h1]
        have : ∀ (t : Ty) (m : Mk) (l : List Value), t.nz = true → headed t m = true → l.length = t.width → (mkV t l).cells.toList = l ∨ ∃ y, t = .sl y := by
          intro t m l hz hh hl
          cases t with
          | pair a b => left; simp [mkV, Ty.agg, Value.cells]
          | sl y => exact .inr ⟨y, rfl⟩
          | unit => simp [Ty.nz] at hz
          | _ => cases m <;> simp [headed] at hh
        rcases this t m _ hok.1.1 hm.1.2 (hdc_len g.hd (1048576 + 64 * i) t.width) with h2 | ⟨y, rfl⟩
        · exact h2
        · obtain ⟨aa, n, k, hsl⟩ := Rep.slice rep
          have e3 := e2
          simp only [mkV, Ty.agg, Bool.false_eq_true, if_false, Ty.width, hdc, List.range_one, List.map_cons, List.map_nil, List.headD_cons] at e3 ⊢
          rw [hsl] at e3
          simp only [List.headD_cons] at e3
          rw [← e3]
          simp [Value.cells]
      refine root t (tagged i m) a.1 c hok.1.1 (tag_rep t m _ hm.1.2 rep) e ?_ hm.2
      rw [hc]; exact tag_tagC t m _ hm.1.2 hok.1.2.1
    | mutp t m m' =>
      simp only [enter]
      simp only [PK.enterOk] at hok
      obtain ⟨b, c, F0, e, rep, ho, hb1, hs0, hn0⟩ := r1
      obtain ⟨g1, s1, p1, p2, p3, p4, _⟩ := st.newRoot hil (by rw [hpr]; exact rep) (TagC.tagFree t hok.1) (fun z hz => hH i (Nat.le_refl _) z (hs0 z hz)) (some b)
        (fun b' hb' => by simp only [Option.some.injEq] at hb'; subst hb'; exact ⟨hH i (Nat.le_refl _) b hb1, hn0, ho⟩) (fun u => .inl (by
        cases hc : (S.get u).roots.contains i with
        | false => rfl
        | true => have := hb u i (by simpa using hc); omega))
      have hroot : (S.setRoot i (some ⟨t, m, a.1, true⟩)).root i = some ⟨t, m, a.1, true⟩ := by rw [St.root_setRoot]; simp [hil]
      refine go _ g1 _ _ s1 (p1.trans hpr) p2 ?_ (by simp [AV.roots]) (fun u r hr => hb u r hr) ?_ (by simpa only [MvOk] using hm)
      · simp only [AVRel]
        intro R hR d hf
        have hR2 : R = ⟨t, m, a.1, true⟩ := by
          have hR' : (S.setRoot i (some ⟨t, m, a.1, true⟩)).root i = some R := hR
          rw [hroot] at hR'
          simp only [Option.some.injEq] at hR'
          exact hR'.symm
        subst hR2
        refine ⟨by simp only [inR], b, 0, c, ?_, e⟩
        have hat : atP h t c (g1.base i) [] = some (g1.base i, c) := by cases t <;> rfl
        rw [p3, hat]
        simp [Ghost.base, p4]
      · intro j hj z hz
        refine ⟨hH j (by omega) z hz, fun h2 => hdis j i (by omega) z hz (hs0 z h2), ?_⟩
        intro h2
        simp only [Option.some.injEq] at h2
        subst h2
        exact hdis j i (by omega) _ hz hb1
end Go.V

namespace Go.V
open Go
theorem PsRel.len {h : Array Obj} {Pr : BS} {Fs : Nat → BS} : ∀ (ks : List PK) (i : Nat) {a : PDen ks} {vs : List Value}, PsRel h Pr Fs i ks a vs → vs.length = ks.length
  | [], _, _, _, r => by rw [show _ = [] from r]; rfl
  | k :: ks, i, _, _, r => by
    obtain ⟨v, vs', rfl, _, r2⟩ := r
    simp [PsRel.len ks (i + 1) r2]
theorem mv_ok {h : Array Obj} {Pr : BS} {Fs : Nat → BS} (us : List Value) : ∀ (ks : List PK) (i : Nat) (a : PDen ks) (vs : List Value), PsRel h Pr Fs i ks a vs → ks.all PK.enterOk = true → (∀ k, vs[k]? = us[i + k]?) →
    MvOk (fun s => ((us.getD ((s - 1048576) / 64) Go.undef).cells).getD ((s - 1048576) % 64) Go.undef) i ks vs
  | [], _, _, _, _, _, _ => by simp only [MvOk]
  | k :: ks, i, a, vs, r, hok, hu => by
    obtain ⟨v, vs', rfl, r1, r2⟩ := r
    simp only [List.all_cons, Bool.and_eq_true] at hok
    have ih := mv_ok us ks (i + 1) a.2 vs' r2 hok.2 (fun k => by have := hu (k + 1); rw [show i + 1 + k = i + (k + 1) by omega, ← this]; simp)
    cases k with
    | mutv t m m' =>
      simp only [MvOk]
      refine ⟨⟨?_, ?_⟩, ih⟩
      · simp only [PK.enterOk, Bool.and_eq_true] at hok
        obtain ⟨c, rep, e⟩ := r1
        have hw := Rep.width t rep
        have h64 := Nat.le_of_ble_eq_true hok.1.2.2.2
        have hcells := mkV_cells rep
        rw [← e] at hcells
        have hui : us.getD i Go.undef = v := by
          have := hu 0
          simp only [Nat.add_zero, List.getElem?_cons_zero] at this
          simp only [List.getD, ← this, Option.getD_some]
        have : hdc (fun s => ((us.getD ((s - 1048576) / 64) Go.undef).cells).getD ((s - 1048576) % 64) Go.undef) (1048576 + 64 * i) t.width = c := by
          apply List.ext_getElem (by rw [hdc_len, hw])
          intro k h1 h2
          rw [hdc_len] at h1
          simp only [hdc, List.getElem_map, List.getElem_range]
          rw [show (1048576 + 64 * i + k - 1048576) / 64 = i by omega, show (1048576 + 64 * i + k - 1048576) % 64 = k by omega, hui]
          have hk : k < v.cells.size := by rw [← Array.length_toList, hcells]; omega
          simp only [Array.getD_eq_getD_getElem?, Array.getElem?_eq_getElem hk, Option.getD_some]
          rw [← Array.getElem_toList]
          simp only [hcells]
        rw [this]; exact e
      · simp only [PK.enterOk, Bool.and_eq_true] at hok
        exact hok.1.2.2.1
    | _ => simpa only [MvOk] using ih
theorem RsRel.mono {h : Array Obj} {Pr Pr2 : BS} {Gs : Nat → BS} (hp : Sub Pr Pr2) : ∀ (ks : List RK) (i : Nat) {a : RDen ks} {us : List Value}, RsRel h Pr Gs i ks a us → RsRel h Pr2 Gs i ks a us
  | [], _, _, _, r => r
  | k :: ks, i, _, _, r => by
    obtain ⟨v, vs', e, r1, r2⟩ := r
    exact ⟨v, vs', e, r1.mono hp, RsRel.mono hp ks (i + 1) r2⟩
section
variable {P : Program} {C : Ctx} {D : Den C} (hty : AllTy P C) (dok : DOk P C D) (hmix : P.follows .mixedOrders = true)
include hty dok hmix
theorem runF_ok {f : FuncId} {fn : Func} {n : Nat} {Hh : Hints} {ks : List PK} {rs : List RK} {a : PDen ks} {r : RDen rs × ODen ks} (hf : P.funcs[f]? = some fn) (h : runF C D n fn Hh ks rs a = some r)
    {w : World} {Pr : BS} {Fs : Nat → BS} {vs : List Value} (pre : Pre w.heap Pr Fs ks a vs) :
    Calls P f vs.toArray w fun e w' => ∃ val Pr' Gs Os us, e = .returned val ∧ Pst w w' Pr Fs ks rs r.1 r.2 vs val Pr' Gs Os us := by
  unfold runF at h
  split at h
  · simp at h
  · rename_i c hb
    split at h
    · rename_i hchk
      simp only [Bool.and_eq_true] at hchk
      obtain ⟨hok, hle, hcf⟩ := hchk
      have hle := Nat.le_of_ble_eq_true hle
      have hlen := PsRel.len ks 0 pre.rel
      refine calls_of_wp hf hb ?_
      have hmv := mv_ok vs ks 0 a vs pre.rel hok (fun k => by simp)
      generalize hhd : (fun s => ((vs.getD ((s - 1048576) / 64) Go.undef).cells).getD ((s - 1048576) % 64) Go.undef) = hd at hmv
      let g0 : Ghost := ⟨Pr, fun _ => [], fun _ => none, fun _ => Nil, hd, May w.heap.size Fs, Pr⟩
      generalize htm : vs.toArray ++ Array.replicate (fn.ntmps - vs.toArray.size) Go.undef = tmps
      have hsz : tmps.size = fn.ntmps := by rw [← htm]; simp; omega
      have hget : ∀ k v, vs[k]? = some v → tmps.getD k Go.undef = v := by
        intro k v hk
        have hkl : k < vs.length := (List.getElem?_eq_some_iff.1 hk).1
        rw [← htm]
        simp only [Array.getD_eq_getD_getElem?]
        rw [Array.getElem?_append_left (by simpa using hkl)]
        simp [hk]
      have hroot : ∀ q, (⟨List.replicate fn.ntmps .undef, List.replicate fn.ntmps none⟩ : St).root q = none := by
        intro q
        simp only [Rts.root, List.getD, List.getElem?_replicate]
        split <;> rfl
      have hslot : ∀ t, (⟨List.replicate fn.ntmps .undef, List.replicate fn.ntmps none⟩ : St).get t = .undef := by
        intro t
        simp only [St.get, List.getD, List.getElem?_replicate]
        split <;> rfl
      have st0 : StRel w.heap ⟨List.replicate fn.ntmps .undef, List.replicate fn.ntmps none⟩ g0 tmps (fun b => ∃ i, Fs i b) := by
        refine { len := by simp [hsz], rlen := by simp [hsz], slots := fun t => by rw [hslot]; simp only [AVRel], roots := fun q R hR => ?_, dis := fun q q' _ h1 _ => ?_, prot := fun q h1 => ?_, hand := fun q h1 => ?_, handPr := ?_, limPr := pre.limPr,
                 limG := fun q b h1 _ => ?_, limH := ?_, tag := fun q R hR => ?_, own := fun q b h1 _ => ?_, ownH := fun b hb => .inr hb, limL := fun b hb => .inl hb, p0 := Sub.refl _, prL := fun b hb => .inl hb }
        · rw [hroot] at hR; simp at hR
        · rw [hroot] at h1; simp at h1
        · rw [hroot] at h1; simp at h1
        · rw [hroot] at h1; simp at h1
        · rintro b ⟨i, hb⟩ hp; exact pre.prot i b hb hp
        · rw [hroot] at h1; simp at h1
        · rintro b ⟨i, hb⟩; exact pre.lim i b hb
        · rw [hroot] at hR; simp at hR
        · rw [hroot] at h1; simp at h1
      obtain ⟨g1, H1, st1, hpr1, hsm1⟩ := enter_ok pre.dis ks 0 a vs _ g0 _ st0 pre.rel rfl (fun k v hk => by simpa using hget k v hk) (fun u q hq => by rw [hslot] at hq; simp [AV.roots] at hq) hok
        (fun j _ b hb => ⟨j, hb⟩) (by rw [hsz]; omega) hmv
      refine exec_ok (np := fixedSlots 0 ks) (H := Hh) hty dok hmix c n _ _ hcf h _ g1 ⟨tmps, []⟩ w (st1.lessHand (Sub.nil _)) rfl ?_
      intro e S' g' a' w' hk st' hsm hfr hdf hfx
      have fin : ((gather C rs fn.results.toList S').bind fun r => (outs Hh 0 ks r.2).bind fun o => some (r.1, o)) = some r → ∃ v, (results fn a'.tmps).run P w' = .ok v w' ∧
          ∃ val Pr' Gs Os us, Ending.returned v = .returned val ∧ Pst w w' Pr Fs ks rs r.1 r.2 vs val Pr' Gs Os us := by
        intro hk
        simp only [Option.bind_eq_some_iff, Option.some.injEq] at hk
        obtain ⟨⟨rr, S2⟩, hg, o, ho, rfl⟩ := hk
        obtain ⟨us, g2, H2, Gs, k1, k2, k3, k4, k5, k6, k7, k8, k9, k10⟩ := gather_ok hty rs _ S' g' Nil 0 rr S2 st' hg
        have hsm2 := (hsm1.trans hsm).trans k3
        obtain ⟨g3, H3, Os, q⟩ := outs_ok (Hh := Hh) ks 0 vs S2 g2 H2 o k2 ho (fun k v hk hmem => by
          rw [Nat.zero_add] at hmem
          rw [Nat.zero_add, hfx k hmem]
          exact hget k v hk) hlen (by rw [hsm2.1]; exact hmv)
        obtain ⟨S3, st3⟩ := q.st
        have hsm3 := hsm2.trans q.same
        have hL : g3.L = May w.heap.size Fs := hsm3.2.1
        have hP0 : g3.P0 = Pr := hsm3.2.2
        have hL1 : g1.L = May w.heap.size Fs := hsm1.2.1
        refine ⟨resVal us, results_of k1, resVal us, g3.Pr, Gs, Os, us, rfl, ?_⟩
        exact {
          res := RsRel.mono q.pr rs 0 k5
          val := rfl
          out := q.rel
          pr := by rw [← hP0]; exact st3.p0
          prL := fun b hb => by have := st3.prL b hb; rw [hP0, hL] at this; exact this
          gL := fun i b hb => by rw [← hL]; exact st3.ownH b (q.hand b (k7 i b hb))
          oL := fun i b hb => by rw [← hL]; exact st3.ownH b (q.sub i b hb)
          gdis := k8
          odis := q.dis
          go := fun i j b h1 h2 => q.disH j b h2 (k7 i b h1)
          gp := fun i b h1 h2 => st3.handPr b (q.hand b (k7 i b h1)) h2
          op := fun i b h1 h2 => st3.handPr b (q.sub i b h1) h2
          glim := fun i b h1 => st3.limH b (q.hand b (k7 i b h1))
          olim := fun i b h1 => st3.limH b (q.sub i b h1)
          plim := st3.limPr
          fr := by rw [← hL1]; exact hfr }
      cases e with
      | normal => exact ⟨hdf, fin hk⟩
      | ret => exact ⟨hdf, fin hk⟩
      | exit id => simp at hk
    · simp at h
end
theorem Dn_ok {P : Program} {C : Ctx} (hty : AllTy P C) (hmix : P.follows .mixedOrders = true) {E : Den C} {isExt : FuncId → Bool} (hext : ∀ f, isExt f = true → FnOk P C E f) (hextc : ∀ f a r, isExt f = true → E f a = some r → Callable P f)
    (hnm : ∀ (f : FuncId) (fn : Func), P.funcs[f]? = some fn → fn.name ≠ "runtime.NumGoroutine") : ∀ n, DOk P C (Dn C E isExt (fun g => P.funcs[g]?) n)
  | 0 => ⟨fun f a r h => by simp [Dn] at h, fun f a r h => by simp [Dn] at h⟩
  | n + 1 => by
    have ih := Dn_ok hty hmix hext hextc hnm n
    refine ⟨fun f a r h => ?_, fun f a r h => ?_⟩
    · simp only [Dn] at h
      by_cases he : isExt f = true
      · rw [if_pos he] at h
        exact hext f he a r h
      · rw [if_neg he] at h
        split at h
        · simp at h
        · rename_i fn hf
          intro w Pr Fs vs pre
          exact runF_ok hty ih hmix hf h pre
    · simp only [Dn] at h
      by_cases he : isExt f = true
      · rw [if_pos he] at h
        exact hextc f a r he h
      · rw [if_neg he] at h
        split at h
        · simp at h
        · rename_i fn hf
          refine ⟨fn, hf, hnm f fn hf, ?_⟩
          unfold runF at h
          split at h
          · simp at h
          · rename_i c hb; rw [hb]; rfl
end Go.V

namespace Go.V
open Go
def zv : Value → Value → Bool
  | .int k a, .int j b => decide (k = j) && decide (a = b)
  | .bool a, .bool b => decide (a = b)
  | .string a, .string b => Nat.beq a.size 0 && Nat.beq b.size 0
  | .slice none n k, .slice none n' k' => Nat.beq n n' && Nat.beq k k'
  | _, _ => false
def zvs : List Value → List Value → Bool
  | [], [] => true
  | a :: l, b :: l' => zv a b && zvs l l'
  | _, _ => false
def zval : Value → Value → Bool
  | .agg a, .agg b => zvs a.toList b.toList
  | a, b => zv a b
theorem bytes_nil {a : ByteArray} (h : Nat.beq a.size 0 = true) : a = ByteArray.empty := by
  have h := Nat.eq_of_beq_eq_true h
  obtain ⟨⟨l⟩⟩ := a
  have : l = [] := List.length_eq_zero_iff.1 h
  subst this; rfl
theorem zv_ok : ∀ {a b : Value}, zv a b = true → a = b := by
  intro a b h
  unfold zv at h
  split at h
  · simp only [Bool.and_eq_true, decide_eq_true_eq] at h; rw [h.1, h.2]
  · simp only [decide_eq_true_eq] at h; rw [h]
  · simp only [Bool.and_eq_true] at h; rw [bytes_nil h.1, bytes_nil h.2]
  · simp only [Bool.and_eq_true] at h; rw [Nat.eq_of_beq_eq_true h.1, Nat.eq_of_beq_eq_true h.2]
  · simp at h
theorem zvs_ok : ∀ {l l' : List Value}, zvs l l' = true → l = l'
  | [], [], _ => rfl
  | a :: l, b :: l', h => by
    simp only [zvs, Bool.and_eq_true] at h
    rw [zv_ok h.1, zvs_ok h.2]
  | [], _ :: _, h => by simp [zvs] at h
  | _ :: _, [], h => by simp [zvs] at h
theorem zval_ok {a b : Value} (h : zval a b = true) : a = b := by
  unfold zval at h
  split at h
  · rename_i x y
    have := zvs_ok h
    rw [Array.ext' this]
  · exact zv_ok h
def structB (C : Ctx) : List Field → Nat → Ty → Bool
  | [], _, .unit => true
  | f :: fs, off, .pair a b => decide (a = C.ty f.type) && (Nat.beq f.offset off && ((f.name != "_") && (a.nz && structB C fs (off + a.width) b)))
  | _, _, _ => false
theorem structB_ok {C : Ctx} : ∀ (fs : List Field) (off : Nat) (T : Ty), structB C fs off T = true → StructOk C fs off T
  | [], off, T, h => by
    cases T <;> simp [structB] at h
    simp only [StructOk]
  | f :: fs, off, T, h => by
    cases T with
    | pair a b =>
      simp only [structB, Bool.and_eq_true, decide_eq_true_eq, bne_iff_ne, ne_eq] at h
      obtain ⟨e, h1, h2, h3, h4⟩ := h
      subst e
      exact ⟨b, rfl, Nat.eq_of_beq_eq_true h1, h2, h3, structB_ok fs _ b h4⟩
    | _ => simp [structB] at h
def descB (C : Ctx) : TypeDesc → Ty → Bool
  | .int k, T => decide (T = .int k)
  | .bool, T => decide (T = .bool)
  | .string, T => decide (T = .str)
  | .slice e, T => decide (T = .sl (C.ty e)) && (C.ty e).nz
  | .struct fs, T => structB C fs.toList 0 T && T.nz
  | _, _ => false
theorem descB_ok {C : Ctx} {d : TypeDesc} {T : Ty} (h : descB C d T = true) : DescOk C d T := by
  cases d <;> simp only [descB, Bool.and_eq_true, decide_eq_true_eq] at h <;> first
    | exact h
    | exact ⟨structB_ok _ _ _ h.1, Ty.nz_unit h.2⟩
    | simp at h
def tyOkB (P : Program) (C : Ctx) (t : TypeId) : Bool :=
  if (C.ty t).nz then
    (match P.info? t with
     | some i => Nat.beq i.size (C.ty t).width && ((match i.zero with | some z => zval z (mkV (C.ty t) (zc (C.ty t))) | none => false) && Nat.ble i.bytes 255)
     | none => false) &&
    (Nat.blt 0 (C.ty t).width && ((match P.underlying t with | some d => descB C d (C.ty t) | none => false) && (Nat.blt (C.ty t).deep 10000 &&
      (!((C.ty t).agg && (C.ty t).comp) || (!P.stoodInHeld t && !P.eqGuardType P.depth t)))))
  else true
theorem tyOkB_ok {P : Program} {C : Ctx} {t : TypeId} (h : tyOkB P C t = true) (hz : (C.ty t).nz = true) : TyOk P C t := by
  unfold tyOkB at h
  rw [if_pos hz] at h
  simp only [Bool.and_eq_true] at h
  obtain ⟨h1, h2, h3, h4, h5⟩ := h
  refine ⟨?_, blt_lt.1 h2, ?_, blt_lt.1 h4, ?_⟩
  · split at h1
    · rename_i i hi
      simp only [Bool.and_eq_true] at h1
      obtain ⟨k1, k2, k3⟩ := h1
      split at k2
      · rename_i z hzz
        exact ⟨i, hi, Nat.eq_of_beq_eq_true k1, by rw [hzz, zval_ok k2], Nat.le_of_ble_eq_true k3⟩
      · simp at k2
    · simp at h1
  · split at h3
    · rename_i d hd
      exact ⟨d, hd, descB_ok h3⟩
    · simp at h3
  · intro ha hc
    rw [ha, hc] at h5
    simp only [Bool.and_self, Bool.not_true, Bool.false_or, Bool.and_eq_true, Bool.not_eq_true'] at h5
    exact h5
theorem allTy_of {P : Program} {C : Ctx} (n : Nat) (hmax : ∀ t, Nat.ble t n = false → C.ty t = .unit) (h : (List.range (n + 1)).all (tyOkB P C) = true) : AllTy P C := by
  intro t hz
  cases hb : Nat.ble t n with
  | false => rw [hmax t hb] at hz; simp [Ty.nz] at hz
  | true =>
    have := Nat.le_of_ble_eq_true hb
    rw [List.all_eq_true] at h
    exact tyOkB_ok (h t (List.mem_range.2 (by omega))) hz
theorem names_of {P : Program} (h : P.funcs.toList.all (fun fn => fn.name != "runtime.NumGoroutine") = true) : ∀ (f : FuncId) (fn : Func), P.funcs[f]? = some fn → fn.name ≠ "runtime.NumGoroutine" := by
  intro f fn hf
  rw [List.all_eq_true] at h
  have := h fn (by rw [Array.mem_toList_iff]; exact Array.mem_of_getElem? hf)
  simpa using this
end Go.V

namespace Go.V
set_option maxRecDepth 100000
open Go
noncomputable def tyMax : Nat := 196
noncomputable def tyTab (n : Nat) : Ty := cond (n.ble tyMax) (cond (n.ble 53) (cond (n.ble 23) (cond (n.ble 9) (cond (n.ble 4) (cond (n.ble 2) (cond (n.beq 2) (.int .i64) (.unit)) (cond (n.ble 3) (cond (n.beq 3) (.int .i64) (.unit)) (cond (n.beq 4) (.bool) (.unit)))) (cond (n.ble 5) (cond (n.beq 5) (.int .u8) (.unit)) (cond (n.ble 6) (cond (n.beq 6) (.int .u8) (.unit)) (cond (n.beq 9) (.str) (.unit))))) (cond (n.ble 12) (cond (n.ble 10) (cond (n.beq 10) (.str) (.unit)) (cond (n.ble 11) (cond (n.beq 11) (.str) (.unit)) (cond (n.beq 12) (.int .u64) (.unit)))) (cond (n.ble 21) (cond (n.beq 21) (.int .i32) (.unit)) (cond (n.ble 22) (cond (n.beq 22) (.sl (.pair (.str) (.pair (.int .i64) (.pair (.bool) (.unit))))) (.unit)) (cond (n.beq 23) (.sl (.int .i64)) (.unit)))))) (cond (n.ble 31) (cond (n.ble 26) (cond (n.ble 24) (cond (n.beq 24) (.sl (.pair (.str) (.pair (.sl (.int .i64)) (.pair (.bool) (.unit))))) (.unit)) (cond (n.ble 25) (cond (n.beq 25) (.pair (.sl (.pair (.str) (.pair (.int .i64) (.pair (.bool) (.unit))))) (.pair (.sl (.int .i64)) (.pair (.sl (.pair (.str) (.pair (.sl (.int .i64)) (.pair (.bool) (.unit))))) (.unit)))) (.unit)) (cond (n.beq 26) (.pair (.sl (.pair (.str) (.pair (.int .i64) (.pair (.bool) (.unit))))) (.pair (.sl (.int .i64)) (.pair (.sl (.pair (.str) (.pair (.sl (.int .i64)) (.pair (.bool) (.unit))))) (.unit)))) (.unit)))) (cond (n.ble 29) (cond (n.beq 29) (.sl (.pair (.str) (.pair (.int .i64) (.pair (.bool) (.unit))))) (.unit)) (cond (n.ble 30) (cond (n.beq 30) (.sl (.pair (.str) (.pair (.sl (.int .i64)) (.pair (.bool) (.unit))))) (.unit)) (cond (n.beq 31) (.pair (.sl (.pair (.str) (.pair (.int .i64) (.pair (.bool) (.unit))))) (.pair (.sl (.int .i64)) (.pair (.sl (.pair (.str) (.pair (.sl (.int .i64)) (.pair (.bool) (.unit))))) (.unit)))) (.unit))))) (cond (n.ble 38) (cond (n.ble 32) (cond (n.beq 32) (.pair (.sl (.pair (.str) (.pair (.int .i64) (.pair (.bool) (.unit))))) (.pair (.sl (.int .i64)) (.pair (.sl (.pair (.str) (.pair (.sl (.int .i64)) (.pair (.bool) (.unit))))) (.unit)))) (.unit)) (cond (n.ble 36) (cond (n.beq 36) (.sl (.int .u8)) (.unit)) (cond (n.beq 38) (.sl (.pair (.int .i64) (.pair (.int .i64) (.pair (.str) (.unit))))) (.unit)))) (cond (n.ble 50) (cond (n.beq 50) (.pair (.int .i64) (.pair (.int .i64) (.pair (.str) (.unit)))) (.unit)) (cond (n.ble 51) (cond (n.beq 51) (.pair (.int .i64) (.pair (.int .i64) (.pair (.str) (.unit)))) (.unit)) (cond (n.beq 53) (.sl (.pair (.int .i64) (.pair (.int .i64) (.pair (.str) (.unit))))) (.unit))))))) (cond (n.ble 96) (cond (n.ble 67) (cond (n.ble 61) (cond (n.ble 59) (cond (n.beq 59) (.sl (.sl (.pair (.int .i64) (.pair (.int .i64) (.pair (.str) (.unit)))))) (.unit)) (cond (n.ble 60) (cond (n.beq 60) (.pair (.pair (.sl (.pair (.str) (.pair (.int .i64) (.pair (.bool) (.unit))))) (.pair (.sl (.int .i64)) (.pair (.sl (.pair (.str) (.pair (.sl (.int .i64)) (.pair (.bool) (.unit))))) (.unit)))) (.pair (.sl (.sl (.pair (.int .i64) (.pair (.int .i64) (.pair (.str) (.unit)))))) (.unit))) (.unit)) (cond (n.beq 61) (.pair (.pair (.sl (.pair (.str) (.pair (.int .i64) (.pair (.bool) (.unit))))) (.pair (.sl (.int .i64)) (.pair (.sl (.pair (.str) (.pair (.sl (.int .i64)) (.pair (.bool) (.unit))))) (.unit)))) (.pair (.sl (.sl (.pair (.int .i64) (.pair (.int .i64) (.pair (.str) (.unit)))))) (.unit))) (.unit)))) (cond (n.ble 63) (cond (n.beq 63) (.pair (.str) (.pair (.str) (.unit))) (.unit)) (cond (n.ble 64) (cond (n.beq 64) (.pair (.str) (.pair (.str) (.unit))) (.unit)) (cond (n.beq 67) (.sl (.sl (.pair (.int .i64) (.pair (.int .i64) (.pair (.str) (.unit)))))) (.unit))))) (cond (n.ble 82) (cond (n.ble 68) (cond (n.beq 68) (.pair (.pair (.sl (.pair (.str) (.pair (.int .i64) (.pair (.bool) (.unit))))) (.pair (.sl (.int .i64)) (.pair (.sl (.pair (.str) (.pair (.sl (.int .i64)) (.pair (.bool) (.unit))))) (.unit)))) (.pair (.sl (.sl (.pair (.int .i64) (.pair (.int .i64) (.pair (.str) (.unit)))))) (.unit))) (.unit)) (cond (n.ble 69) (cond (n.beq 69) (.pair (.pair (.sl (.pair (.str) (.pair (.int .i64) (.pair (.bool) (.unit))))) (.pair (.sl (.int .i64)) (.pair (.sl (.pair (.str) (.pair (.sl (.int .i64)) (.pair (.bool) (.unit))))) (.unit)))) (.pair (.sl (.sl (.pair (.int .i64) (.pair (.int .i64) (.pair (.str) (.unit)))))) (.unit))) (.unit)) (cond (n.beq 82) (.pair (.str) (.pair (.sl (.int .i64)) (.pair (.bool) (.unit)))) (.unit)))) (cond (n.ble 83) (cond (n.beq 83) (.pair (.str) (.pair (.sl (.int .i64)) (.pair (.bool) (.unit)))) (.unit)) (cond (n.ble 90) (cond (n.beq 90) (.sl (.pair (.str) (.pair (.str) (.unit)))) (.unit)) (cond (n.beq 96) (.pair (.str) (.pair (.int .i64) (.pair (.bool) (.unit)))) (.unit)))))) (cond (n.ble 160) (cond (n.ble 123) (cond (n.ble 97) (cond (n.beq 97) (.pair (.str) (.pair (.int .i64) (.pair (.bool) (.unit)))) (.unit)) (cond (n.ble 117) (cond (n.beq 117) (.sl (.str)) (.unit)) (cond (n.beq 123) (.pair (.int .i64) (.pair (.int .i64) (.pair (.str) (.unit)))) (.unit)))) (cond (n.ble 150) (cond (n.beq 150) (.pair (.str) (.pair (.int .i64) (.pair (.bool) (.unit)))) (.unit)) (cond (n.ble 152) (cond (n.beq 152) (.pair (.str) (.pair (.sl (.int .i64)) (.pair (.bool) (.unit)))) (.unit)) (cond (n.beq 160) (.pair (.sl (.int .u8)) (.pair (.int .i64) (.pair (.int .i64) (.unit)))) (.unit))))) (cond (n.ble 190) (cond (n.ble 161) (cond (n.beq 161) (.pair (.sl (.int .u8)) (.pair (.int .i64) (.pair (.int .i64) (.unit)))) (.unit)) (cond (n.ble 177) (cond (n.beq 177) (.int .u64) (.unit)) (cond (n.beq 190) (.int .u32) (.unit)))) (cond (n.ble 192) (cond (n.ble 191) (cond (n.beq 191) (.int .u8) (.unit)) (cond (n.beq 192) (.int .u8) (.unit))) (cond (n.ble 195) (cond (n.beq 195) (.int .i32) (.unit)) (cond (n.beq 196) (.int .i32) (.unit)))))))) (.unit)
noncomputable def sigTab (n : Nat) : Sig := cond (n.ble 97) (cond (n.ble 49) (cond (n.ble 25) (cond (n.ble 13) (cond (n.ble 7) (cond (n.ble 4) (cond (n.ble 3) (cond (n.beq 3) (⟨[.val (.pair (.sl (.pair (.str) (.pair (.int .i64) (.pair (.bool) (.unit))))) (.pair (.sl (.int .i64)) (.pair (.sl (.pair (.str) (.pair (.sl (.int .i64)) (.pair (.bool) (.unit))))) (.unit))))], [.val (.bool) (Mk.top (.bool))]⟩) (⟨[], []⟩)) (cond (n.beq 4) (⟨[.val (.sl (.int .u8))], [.val (.bool) (Mk.top (.bool))]⟩) (⟨[], []⟩))) (cond (n.ble 5) (cond (n.beq 5) (⟨[.val (.pair (.sl (.pair (.str) (.pair (.int .i64) (.pair (.bool) (.unit))))) (.pair (.sl (.int .i64)) (.pair (.sl (.pair (.str) (.pair (.sl (.int .i64)) (.pair (.bool) (.unit))))) (.unit)))), .val (.sl (.pair (.int .i64) (.pair (.int .i64) (.pair (.str) (.unit)))))], [.val (.bool) (Mk.top (.bool))]⟩) (⟨[], []⟩)) (cond (n.ble 6) (cond (n.beq 6) (⟨[.val (.pair (.sl (.pair (.str) (.pair (.int .i64) (.pair (.bool) (.unit))))) (.pair (.sl (.int .i64)) (.pair (.sl (.pair (.str) (.pair (.sl (.int .i64)) (.pair (.bool) (.unit))))) (.unit)))), .val (.sl (.pair (.int .i64) (.pair (.int .i64) (.pair (.str) (.unit)))))], [.val (.bool) (Mk.top (.bool))]⟩) (⟨[], []⟩)) (cond (n.beq 7) (⟨[.val (.pair (.pair (.sl (.pair (.str) (.pair (.int .i64) (.pair (.bool) (.unit))))) (.pair (.sl (.int .i64)) (.pair (.sl (.pair (.str) (.pair (.sl (.int .i64)) (.pair (.bool) (.unit))))) (.unit)))) (.pair (.sl (.sl (.pair (.int .i64) (.pair (.int .i64) (.pair (.str) (.unit)))))) (.unit))), .val (.int .i64), .val (.sl (.pair (.int .i64) (.pair (.int .i64) (.pair (.str) (.unit)))))], [.val (.bool) (Mk.top (.bool))]⟩) (⟨[], []⟩))))) (cond (n.ble 10) (cond (n.ble 8) (cond (n.beq 8) (⟨[.val (.pair (.pair (.sl (.pair (.str) (.pair (.int .i64) (.pair (.bool) (.unit))))) (.pair (.sl (.int .i64)) (.pair (.sl (.pair (.str) (.pair (.sl (.int .i64)) (.pair (.bool) (.unit))))) (.unit)))) (.pair (.sl (.sl (.pair (.int .i64) (.pair (.int .i64) (.pair (.str) (.unit)))))) (.unit)))], [.val (.bool) (Mk.top (.bool))]⟩) (⟨[], []⟩)) (cond (n.ble 9) (cond (n.beq 9) (⟨[.val (.sl (.int .u8))], [.val (.bool) (Mk.top (.bool))]⟩) (⟨[], []⟩)) (cond (n.beq 10) (⟨[.val (.sl (.int .u8))], [.val (.bool) (Mk.top (.bool))]⟩) (⟨[], []⟩)))) (cond (n.ble 11) (cond (n.beq 11) (⟨[.val (.pair (.pair (.sl (.pair (.str) (.pair (.int .i64) (.pair (.bool) (.unit))))) (.pair (.sl (.int .i64)) (.pair (.sl (.pair (.str) (.pair (.sl (.int .i64)) (.pair (.bool) (.unit))))) (.unit)))) (.pair (.sl (.sl (.pair (.int .i64) (.pair (.int .i64) (.pair (.str) (.unit)))))) (.unit))), .val (.sl (.pair (.int .i64) (.pair (.int .i64) (.pair (.str) (.unit)))))], [.val (.bool) (Mk.top (.bool))]⟩) (⟨[], []⟩)) (cond (n.ble 12) (cond (n.beq 12) (⟨[.val (.pair (.sl (.pair (.str) (.pair (.int .i64) (.pair (.bool) (.unit))))) (.pair (.sl (.int .i64)) (.pair (.sl (.pair (.str) (.pair (.sl (.int .i64)) (.pair (.bool) (.unit))))) (.unit))))], [.val (.bool) (Mk.top (.bool))]⟩) (⟨[], []⟩)) (cond (n.beq 13) (⟨[.val (.sl (.int .u8))], [.val (.bool) (Mk.top (.bool))]⟩) (⟨[], []⟩)))))) (cond (n.ble 19) (cond (n.ble 16) (cond (n.ble 14) (cond (n.beq 14) (⟨[.val (.sl (.int .u8))], [.val (.bool) (Mk.top (.bool))]⟩) (⟨[], []⟩)) (cond (n.ble 15) (cond (n.beq 15) (⟨[.val (.pair (.sl (.pair (.str) (.pair (.int .i64) (.pair (.bool) (.unit))))) (.pair (.sl (.int .i64)) (.pair (.sl (.pair (.str) (.pair (.sl (.int .i64)) (.pair (.bool) (.unit))))) (.unit)))), .val (.int .i64)], [.val (.int .i64) (Mk.top (.int .i64))]⟩) (⟨[], []⟩)) (cond (n.beq 16) (⟨[.val (.pair (.sl (.pair (.str) (.pair (.int .i64) (.pair (.bool) (.unit))))) (.pair (.sl (.int .i64)) (.pair (.sl (.pair (.str) (.pair (.sl (.int .i64)) (.pair (.bool) (.unit))))) (.unit))))], [.val (.bool) (Mk.top (.bool))]⟩) (⟨[], []⟩)))) (cond (n.ble 17) (cond (n.beq 17) (⟨[.val (.pair (.sl (.pair (.str) (.pair (.int .i64) (.pair (.bool) (.unit))))) (.pair (.sl (.int .i64)) (.pair (.sl (.pair (.str) (.pair (.sl (.int .i64)) (.pair (.bool) (.unit))))) (.unit))))], [.val (.pair (.sl (.pair (.str) (.pair (.int .i64) (.pair (.bool) (.unit))))) (.pair (.sl (.int .i64)) (.pair (.sl (.pair (.str) (.pair (.sl (.int .i64)) (.pair (.bool) (.unit))))) (.unit)))) (Mk.top (.pair (.sl (.pair (.str) (.pair (.int .i64) (.pair (.bool) (.unit))))) (.pair (.sl (.int .i64)) (.pair (.sl (.pair (.str) (.pair (.sl (.int .i64)) (.pair (.bool) (.unit))))) (.unit)))))]⟩) (⟨[], []⟩)) (cond (n.ble 18) (cond (n.beq 18) (⟨[.val (.pair (.sl (.pair (.str) (.pair (.int .i64) (.pair (.bool) (.unit))))) (.pair (.sl (.int .i64)) (.pair (.sl (.pair (.str) (.pair (.sl (.int .i64)) (.pair (.bool) (.unit))))) (.unit))))], [.val (.bool) (Mk.top (.bool))]⟩) (⟨[], []⟩)) (cond (n.beq 19) (⟨[.val (.pair (.sl (.pair (.str) (.pair (.int .i64) (.pair (.bool) (.unit))))) (.pair (.sl (.int .i64)) (.pair (.sl (.pair (.str) (.pair (.sl (.int .i64)) (.pair (.bool) (.unit))))) (.unit)))), .val (.pair (.sl (.pair (.str) (.pair (.int .i64) (.pair (.bool) (.unit))))) (.pair (.sl (.int .i64)) (.pair (.sl (.pair (.str) (.pair (.sl (.int .i64)) (.pair (.bool) (.unit))))) (.unit))))], [.val (.bool) (Mk.top (.bool))]⟩) (⟨[], []⟩))))) (cond (n.ble 22) (cond (n.ble 20) (cond (n.beq 20) (⟨[.val (.sl (.int .u8))], [.val (.bool) (Mk.top (.bool))]⟩) (⟨[], []⟩)) (cond (n.ble 21) (cond (n.beq 21) (⟨[.val (.sl (.int .u8))], [.val (.pair (.sl (.pair (.str) (.pair (.int .i64) (.pair (.bool) (.unit))))) (.pair (.sl (.int .i64)) (.pair (.sl (.pair (.str) (.pair (.sl (.int .i64)) (.pair (.bool) (.unit))))) (.unit)))) (Mk.no), .val (.sl (.pair (.int .i64) (.pair (.int .i64) (.pair (.str) (.unit))))) (Mk.top (.sl (.pair (.int .i64) (.pair (.int .i64) (.pair (.str) (.unit))))))]⟩) (⟨[], []⟩)) (cond (n.beq 22) (⟨[.val (.sl (.int .u8))], [.val (.pair (.sl (.pair (.str) (.pair (.int .i64) (.pair (.bool) (.unit))))) (.pair (.sl (.int .i64)) (.pair (.sl (.pair (.str) (.pair (.sl (.int .i64)) (.pair (.bool) (.unit))))) (.unit)))) (Mk.no)]⟩) (⟨[], []⟩)))) (cond (n.ble 23) (cond (n.beq 23) (⟨[.val (.sl (.int .u8))], [.val (.str) (Mk.top (.str))]⟩) (⟨[], []⟩)) (cond (n.ble 24) (cond (n.beq 24) (⟨[.val (.sl (.int .u8))], [.val (.pair (.sl (.pair (.str) (.pair (.int .i64) (.pair (.bool) (.unit))))) (.pair (.sl (.int .i64)) (.pair (.sl (.pair (.str) (.pair (.sl (.int .i64)) (.pair (.bool) (.unit))))) (.unit)))) (Mk.no), .val (.str) (Mk.top (.str))]⟩) (⟨[], []⟩)) (cond (n.beq 25) (⟨[.val (.sl (.int .u8))], [.val (.pair (.sl (.pair (.str) (.pair (.int .i64) (.pair (.bool) (.unit))))) (.pair (.sl (.int .i64)) (.pair (.sl (.pair (.str) (.pair (.sl (.int .i64)) (.pair (.bool) (.unit))))) (.unit)))) (Mk.no), .val (.sl (.pair (.int .i64) (.pair (.int .i64) (.pair (.str) (.unit))))) (Mk.top (.sl (.pair (.int .i64) (.pair (.int .i64) (.pair (.str) (.unit))))))]⟩) (⟨[], []⟩))))))) (cond (n.ble 37) (cond (n.ble 31) (cond (n.ble 28) (cond (n.ble 26) (cond (n.beq 26) (⟨[.val (.pair (.sl (.pair (.str) (.pair (.int .i64) (.pair (.bool) (.unit))))) (.pair (.sl (.int .i64)) (.pair (.sl (.pair (.str) (.pair (.sl (.int .i64)) (.pair (.bool) (.unit))))) (.unit)))), .val (.sl (.pair (.int .i64) (.pair (.int .i64) (.pair (.str) (.unit)))))], [.val (.bool) (Mk.top (.bool))]⟩) (⟨[], []⟩)) (cond (n.ble 27) (cond (n.beq 27) (⟨[.val (.pair (.sl (.pair (.str) (.pair (.int .i64) (.pair (.bool) (.unit))))) (.pair (.sl (.int .i64)) (.pair (.sl (.pair (.str) (.pair (.sl (.int .i64)) (.pair (.bool) (.unit))))) (.unit)))), .val (.sl (.pair (.int .i64) (.pair (.int .i64) (.pair (.str) (.unit)))))], [.val (.bool) (Mk.top (.bool))]⟩) (⟨[], []⟩)) (cond (n.beq 28) (⟨[.val (.str)], [.val (.bool) (Mk.top (.bool))]⟩) (⟨[], []⟩)))) (cond (n.ble 29) (cond (n.beq 29) (⟨[.val (.str)], [.val (.bool) (Mk.top (.bool))]⟩) (⟨[], []⟩)) (cond (n.ble 30) (cond (n.beq 30) (⟨[.val (.pair (.sl (.pair (.str) (.pair (.int .i64) (.pair (.bool) (.unit))))) (.pair (.sl (.int .i64)) (.pair (.sl (.pair (.str) (.pair (.sl (.int .i64)) (.pair (.bool) (.unit))))) (.unit)))), .val (.str)], [.val (.int .i64) (Mk.top (.int .i64))]⟩) (⟨[], []⟩)) (cond (n.beq 31) (⟨[.val (.pair (.sl (.pair (.str) (.pair (.int .i64) (.pair (.bool) (.unit))))) (.pair (.sl (.int .i64)) (.pair (.sl (.pair (.str) (.pair (.sl (.int .i64)) (.pair (.bool) (.unit))))) (.unit)))), .val (.str)], [.val (.int .i64) (Mk.top (.int .i64))]⟩) (⟨[], []⟩))))) (cond (n.ble 34) (cond (n.ble 32) (cond (n.beq 32) (⟨[.val (.sl (.pair (.int .i64) (.pair (.int .i64) (.pair (.str) (.unit))))), .val (.sl (.pair (.int .i64) (.pair (.int .i64) (.pair (.str) (.unit)))))], [.val (.bool) (Mk.top (.bool))]⟩) (⟨[], []⟩)) (cond (n.ble 33) (cond (n.beq 33) (⟨[.val (.pair (.sl (.pair (.str) (.pair (.int .i64) (.pair (.bool) (.unit))))) (.pair (.sl (.int .i64)) (.pair (.sl (.pair (.str) (.pair (.sl (.int .i64)) (.pair (.bool) (.unit))))) (.unit)))), .val (.sl (.pair (.int .i64) (.pair (.int .i64) (.pair (.str) (.unit)))))], [.val (.sl (.pair (.int .i64) (.pair (.int .i64) (.pair (.str) (.unit))))) (Mk.top (.sl (.pair (.int .i64) (.pair (.int .i64) (.pair (.str) (.unit))))))]⟩) (⟨[], []⟩)) (cond (n.beq 34) (⟨[.val (.pair (.sl (.pair (.str) (.pair (.int .i64) (.pair (.bool) (.unit))))) (.pair (.sl (.int .i64)) (.pair (.sl (.pair (.str) (.pair (.sl (.int .i64)) (.pair (.bool) (.unit))))) (.unit)))), .val (.sl (.pair (.int .i64) (.pair (.int .i64) (.pair (.str) (.unit)))))], [.val (.sl (.pair (.int .i64) (.pair (.int .i64) (.pair (.str) (.unit))))) (Mk.top (.sl (.pair (.int .i64) (.pair (.int .i64) (.pair (.str) (.unit))))))]⟩) (⟨[], []⟩)))) (cond (n.ble 35) (cond (n.beq 35) (⟨[.val (.sl (.pair (.int .i64) (.pair (.int .i64) (.pair (.str) (.unit)))))], [.val (.bool) (Mk.top (.bool))]⟩) (⟨[], []⟩)) (cond (n.ble 36) (cond (n.beq 36) (⟨[.val (.sl (.pair (.int .i64) (.pair (.int .i64) (.pair (.str) (.unit))))), .val (.int .i64)], [.val (.int .i64) (Mk.top (.int .i64))]⟩) (⟨[], []⟩)) (cond (n.beq 37) (⟨[.val (.sl (.pair (.int .i64) (.pair (.int .i64) (.pair (.str) (.unit)))))], [.val (.sl (.pair (.int .i64) (.pair (.int .i64) (.pair (.str) (.unit))))) (Mk.top (.sl (.pair (.int .i64) (.pair (.int .i64) (.pair (.str) (.unit))))))]⟩) (⟨[], []⟩)))))) (cond (n.ble 43) (cond (n.ble 40) (cond (n.ble 38) (cond (n.beq 38) (⟨[.val (.sl (.pair (.int .i64) (.pair (.int .i64) (.pair (.str) (.unit))))), .val (.sl (.pair (.int .i64) (.pair (.int .i64) (.pair (.str) (.unit)))))], [.val (.bool) (Mk.top (.bool))]⟩) (⟨[], []⟩)) (cond (n.ble 39) (cond (n.beq 39) (⟨[.mutv (.pair (.sl (.pair (.str) (.pair (.int .i64) (.pair (.bool) (.unit))))) (.pair (.sl (.int .i64)) (.pair (.sl (.pair (.str) (.pair (.sl (.int .i64)) (.pair (.bool) (.unit))))) (.unit)))) (Mk.top (.pair (.sl (.pair (.str) (.pair (.int .i64) (.pair (.bool) (.unit))))) (.pair (.sl (.int .i64)) (.pair (.sl (.pair (.str) (.pair (.sl (.int .i64)) (.pair (.bool) (.unit))))) (.unit))))) (Mk.top (.pair (.sl (.pair (.str) (.pair (.int .i64) (.pair (.bool) (.unit))))) (.pair (.sl (.int .i64)) (.pair (.sl (.pair (.str) (.pair (.sl (.int .i64)) (.pair (.bool) (.unit))))) (.unit))))), .val (.int .i64)], [.val (.int .i64) (Mk.top (.int .i64))]⟩) (⟨[], []⟩)) (cond (n.beq 40) (⟨[.mutv (.sl (.pair (.int .i64) (.pair (.int .i64) (.pair (.str) (.unit))))) (Mk.top (.sl (.pair (.int .i64) (.pair (.int .i64) (.pair (.str) (.unit)))))) (Mk.top (.sl (.pair (.int .i64) (.pair (.int .i64) (.pair (.str) (.unit)))))), .val (.int .i64)], [.val (.int .i64) (Mk.top (.int .i64))]⟩) (⟨[], []⟩)))) (cond (n.ble 41) (cond (n.beq 41) (⟨[.val (.sl (.pair (.int .i64) (.pair (.int .i64) (.pair (.str) (.unit))))), .val (.int .i64)], [.val (.int .i64) (Mk.top (.int .i64))]⟩) (⟨[], []⟩)) (cond (n.ble 42) (cond (n.beq 42) (⟨[.val (.pair (.pair (.sl (.pair (.str) (.pair (.int .i64) (.pair (.bool) (.unit))))) (.pair (.sl (.int .i64)) (.pair (.sl (.pair (.str) (.pair (.sl (.int .i64)) (.pair (.bool) (.unit))))) (.unit)))) (.pair (.sl (.sl (.pair (.int .i64) (.pair (.int .i64) (.pair (.str) (.unit)))))) (.unit))), .val (.int .i64)], [.val (.int .i64) (Mk.top (.int .i64))]⟩) (⟨[], []⟩)) (cond (n.beq 43) (⟨[.val (.pair (.pair (.sl (.pair (.str) (.pair (.int .i64) (.pair (.bool) (.unit))))) (.pair (.sl (.int .i64)) (.pair (.sl (.pair (.str) (.pair (.sl (.int .i64)) (.pair (.bool) (.unit))))) (.unit)))) (.pair (.sl (.sl (.pair (.int .i64) (.pair (.int .i64) (.pair (.str) (.unit)))))) (.unit))), .val (.int .i64), .val (.sl (.pair (.int .i64) (.pair (.int .i64) (.pair (.str) (.unit)))))], [.val (.pair (.str) (.pair (.str) (.unit))) (Mk.top (.pair (.str) (.pair (.str) (.unit)))), .val (.bool) (Mk.top (.bool))]⟩) (⟨[], []⟩))))) (cond (n.ble 46) (cond (n.ble 44) (cond (n.beq 44) (⟨[.val (.pair (.pair (.sl (.pair (.str) (.pair (.int .i64) (.pair (.bool) (.unit))))) (.pair (.sl (.int .i64)) (.pair (.sl (.pair (.str) (.pair (.sl (.int .i64)) (.pair (.bool) (.unit))))) (.unit)))) (.pair (.sl (.sl (.pair (.int .i64) (.pair (.int .i64) (.pair (.str) (.unit)))))) (.unit)))], [.val (.pair (.pair (.sl (.pair (.str) (.pair (.int .i64) (.pair (.bool) (.unit))))) (.pair (.sl (.int .i64)) (.pair (.sl (.pair (.str) (.pair (.sl (.int .i64)) (.pair (.bool) (.unit))))) (.unit)))) (.pair (.sl (.sl (.pair (.int .i64) (.pair (.int .i64) (.pair (.str) (.unit)))))) (.unit))) (Mk.top (.pair (.pair (.sl (.pair (.str) (.pair (.int .i64) (.pair (.bool) (.unit))))) (.pair (.sl (.int .i64)) (.pair (.sl (.pair (.str) (.pair (.sl (.int .i64)) (.pair (.bool) (.unit))))) (.unit)))) (.pair (.sl (.sl (.pair (.int .i64) (.pair (.int .i64) (.pair (.str) (.unit)))))) (.unit))))]⟩) (⟨[], []⟩)) (cond (n.ble 45) (cond (n.beq 45) (⟨[.val (.pair (.pair (.sl (.pair (.str) (.pair (.int .i64) (.pair (.bool) (.unit))))) (.pair (.sl (.int .i64)) (.pair (.sl (.pair (.str) (.pair (.sl (.int .i64)) (.pair (.bool) (.unit))))) (.unit)))) (.pair (.sl (.sl (.pair (.int .i64) (.pair (.int .i64) (.pair (.str) (.unit)))))) (.unit))), .val (.int .i64), .val (.sl (.pair (.int .i64) (.pair (.int .i64) (.pair (.str) (.unit)))))], [.val (.pair (.str) (.pair (.str) (.unit))) (Mk.top (.pair (.str) (.pair (.str) (.unit)))), .val (.bool) (Mk.top (.bool))]⟩) (⟨[], []⟩)) (cond (n.beq 46) (⟨[.val (.pair (.str) (.pair (.str) (.unit))), .val (.pair (.str) (.pair (.str) (.unit)))], [.val (.bool) (Mk.top (.bool))]⟩) (⟨[], []⟩)))) (cond (n.ble 47) (cond (n.beq 47) (⟨[.val (.pair (.pair (.sl (.pair (.str) (.pair (.int .i64) (.pair (.bool) (.unit))))) (.pair (.sl (.int .i64)) (.pair (.sl (.pair (.str) (.pair (.sl (.int .i64)) (.pair (.bool) (.unit))))) (.unit)))) (.pair (.sl (.sl (.pair (.int .i64) (.pair (.int .i64) (.pair (.str) (.unit)))))) (.unit))), .val (.pair (.pair (.sl (.pair (.str) (.pair (.int .i64) (.pair (.bool) (.unit))))) (.pair (.sl (.int .i64)) (.pair (.sl (.pair (.str) (.pair (.sl (.int .i64)) (.pair (.bool) (.unit))))) (.unit)))) (.pair (.sl (.sl (.pair (.int .i64) (.pair (.int .i64) (.pair (.str) (.unit)))))) (.unit)))], [.val (.bool) (Mk.top (.bool))]⟩) (⟨[], []⟩)) (cond (n.ble 48) (cond (n.beq 48) (⟨[.val (.pair (.pair (.sl (.pair (.str) (.pair (.int .i64) (.pair (.bool) (.unit))))) (.pair (.sl (.int .i64)) (.pair (.sl (.pair (.str) (.pair (.sl (.int .i64)) (.pair (.bool) (.unit))))) (.unit)))) (.pair (.sl (.sl (.pair (.int .i64) (.pair (.int .i64) (.pair (.str) (.unit)))))) (.unit)))], [.val (.bool) (Mk.top (.bool))]⟩) (⟨[], []⟩)) (cond (n.beq 49) (⟨[.val (.pair (.pair (.sl (.pair (.str) (.pair (.int .i64) (.pair (.bool) (.unit))))) (.pair (.sl (.int .i64)) (.pair (.sl (.pair (.str) (.pair (.sl (.int .i64)) (.pair (.bool) (.unit))))) (.unit)))) (.pair (.sl (.sl (.pair (.int .i64) (.pair (.int .i64) (.pair (.str) (.unit)))))) (.unit)))], [.val (.bool) (Mk.top (.bool))]⟩) (⟨[], []⟩)))))))) (cond (n.ble 73) (cond (n.ble 61) (cond (n.ble 55) (cond (n.ble 52) (cond (n.ble 50) (cond (n.beq 50) (⟨[.val (.sl (.int .u8))], [.val (.pair (.pair (.sl (.pair (.str) (.pair (.int .i64) (.pair (.bool) (.unit))))) (.pair (.sl (.int .i64)) (.pair (.sl (.pair (.str) (.pair (.sl (.int .i64)) (.pair (.bool) (.unit))))) (.unit)))) (.pair (.sl (.sl (.pair (.int .i64) (.pair (.int .i64) (.pair (.str) (.unit)))))) (.unit))) (Mk.no), .val (.sl (.pair (.int .i64) (.pair (.int .i64) (.pair (.str) (.unit))))) (Mk.top (.sl (.pair (.int .i64) (.pair (.int .i64) (.pair (.str) (.unit))))))]⟩) (⟨[], []⟩)) (cond (n.ble 51) (cond (n.beq 51) (⟨[.val (.pair (.pair (.sl (.pair (.str) (.pair (.int .i64) (.pair (.bool) (.unit))))) (.pair (.sl (.int .i64)) (.pair (.sl (.pair (.str) (.pair (.sl (.int .i64)) (.pair (.bool) (.unit))))) (.unit)))) (.pair (.sl (.sl (.pair (.int .i64) (.pair (.int .i64) (.pair (.str) (.unit)))))) (.unit))), .val (.sl (.pair (.int .i64) (.pair (.int .i64) (.pair (.str) (.unit)))))], [.val (.pair (.pair (.sl (.pair (.str) (.pair (.int .i64) (.pair (.bool) (.unit))))) (.pair (.sl (.int .i64)) (.pair (.sl (.pair (.str) (.pair (.sl (.int .i64)) (.pair (.bool) (.unit))))) (.unit)))) (.pair (.sl (.sl (.pair (.int .i64) (.pair (.int .i64) (.pair (.str) (.unit)))))) (.unit))) (Mk.top (.pair (.pair (.sl (.pair (.str) (.pair (.int .i64) (.pair (.bool) (.unit))))) (.pair (.sl (.int .i64)) (.pair (.sl (.pair (.str) (.pair (.sl (.int .i64)) (.pair (.bool) (.unit))))) (.unit)))) (.pair (.sl (.sl (.pair (.int .i64) (.pair (.int .i64) (.pair (.str) (.unit)))))) (.unit)))), .val (.int .i64) (Mk.top (.int .i64))]⟩) (⟨[], []⟩)) (cond (n.beq 52) (⟨[.val (.pair (.pair (.sl (.pair (.str) (.pair (.int .i64) (.pair (.bool) (.unit))))) (.pair (.sl (.int .i64)) (.pair (.sl (.pair (.str) (.pair (.sl (.int .i64)) (.pair (.bool) (.unit))))) (.unit)))) (.pair (.sl (.sl (.pair (.int .i64) (.pair (.int .i64) (.pair (.str) (.unit)))))) (.unit))), .val (.sl (.pair (.int .i64) (.pair (.int .i64) (.pair (.str) (.unit)))))], [.val (.pair (.pair (.sl (.pair (.str) (.pair (.int .i64) (.pair (.bool) (.unit))))) (.pair (.sl (.int .i64)) (.pair (.sl (.pair (.str) (.pair (.sl (.int .i64)) (.pair (.bool) (.unit))))) (.unit)))) (.pair (.sl (.sl (.pair (.int .i64) (.pair (.int .i64) (.pair (.str) (.unit)))))) (.unit))) (Mk.pr Mk.no (Mk.pr (Mk.own 0 Mk.no) Mk.no)), .val (.int .i64) (Mk.top (.int .i64))]⟩) (⟨[], []⟩)))) (cond (n.ble 53) (cond (n.beq 53) (⟨[.val (.pair (.pair (.sl (.pair (.str) (.pair (.int .i64) (.pair (.bool) (.unit))))) (.pair (.sl (.int .i64)) (.pair (.sl (.pair (.str) (.pair (.sl (.int .i64)) (.pair (.bool) (.unit))))) (.unit)))) (.pair (.sl (.sl (.pair (.int .i64) (.pair (.int .i64) (.pair (.str) (.unit)))))) (.unit))), .val (.pair (.pair (.sl (.pair (.str) (.pair (.int .i64) (.pair (.bool) (.unit))))) (.pair (.sl (.int .i64)) (.pair (.sl (.pair (.str) (.pair (.sl (.int .i64)) (.pair (.bool) (.unit))))) (.unit)))) (.pair (.sl (.sl (.pair (.int .i64) (.pair (.int .i64) (.pair (.str) (.unit)))))) (.unit)))], [.val (.bool) (Mk.top (.bool))]⟩) (⟨[], []⟩)) (cond (n.ble 54) (cond (n.beq 54) (⟨[.val (.pair (.pair (.sl (.pair (.str) (.pair (.int .i64) (.pair (.bool) (.unit))))) (.pair (.sl (.int .i64)) (.pair (.sl (.pair (.str) (.pair (.sl (.int .i64)) (.pair (.bool) (.unit))))) (.unit)))) (.pair (.sl (.sl (.pair (.int .i64) (.pair (.int .i64) (.pair (.str) (.unit)))))) (.unit))), .val (.sl (.pair (.int .i64) (.pair (.int .i64) (.pair (.str) (.unit)))))], [.val (.sl (.pair (.int .i64) (.pair (.int .i64) (.pair (.str) (.unit))))) (Mk.top (.sl (.pair (.int .i64) (.pair (.int .i64) (.pair (.str) (.unit)))))), .val (.bool) (Mk.top (.bool))]⟩) (⟨[], []⟩)) (cond (n.beq 55) (⟨[.val (.pair (.pair (.sl (.pair (.str) (.pair (.int .i64) (.pair (.bool) (.unit))))) (.pair (.sl (.int .i64)) (.pair (.sl (.pair (.str) (.pair (.sl (.int .i64)) (.pair (.bool) (.unit))))) (.unit)))) (.pair (.sl (.sl (.pair (.int .i64) (.pair (.int .i64) (.pair (.str) (.unit)))))) (.unit))), .val (.sl (.pair (.int .i64) (.pair (.int .i64) (.pair (.str) (.unit)))))], [.val (.pair (.pair (.sl (.pair (.str) (.pair (.int .i64) (.pair (.bool) (.unit))))) (.pair (.sl (.int .i64)) (.pair (.sl (.pair (.str) (.pair (.sl (.int .i64)) (.pair (.bool) (.unit))))) (.unit)))) (.pair (.sl (.sl (.pair (.int .i64) (.pair (.int .i64) (.pair (.str) (.unit)))))) (.unit))) (Mk.top (.pair (.pair (.sl (.pair (.str) (.pair (.int .i64) (.pair (.bool) (.unit))))) (.pair (.sl (.int .i64)) (.pair (.sl (.pair (.str) (.pair (.sl (.int .i64)) (.pair (.bool) (.unit))))) (.unit)))) (.pair (.sl (.sl (.pair (.int .i64) (.pair (.int .i64) (.pair (.str) (.unit)))))) (.unit)))), .val (.int .i64) (Mk.top (.int .i64))]⟩) (⟨[], []⟩))))) (cond (n.ble 58) (cond (n.ble 56) (cond (n.beq 56) (⟨[.val (.sl (.pair (.int .i64) (.pair (.int .i64) (.pair (.str) (.unit))))), .val (.sl (.int .i64))], [.val (.sl (.pair (.int .i64) (.pair (.int .i64) (.pair (.str) (.unit))))) (Mk.top (.sl (.pair (.int .i64) (.pair (.int .i64) (.pair (.str) (.unit))))))]⟩) (⟨[], []⟩)) (cond (n.ble 57) (cond (n.beq 57) (⟨[.val (.sl (.pair (.int .i64) (.pair (.int .i64) (.pair (.str) (.unit)))))], [.val (.bool) (Mk.top (.bool))]⟩) (⟨[], []⟩)) (cond (n.beq 58) (⟨[.val (.pair (.pair (.sl (.pair (.str) (.pair (.int .i64) (.pair (.bool) (.unit))))) (.pair (.sl (.int .i64)) (.pair (.sl (.pair (.str) (.pair (.sl (.int .i64)) (.pair (.bool) (.unit))))) (.unit)))) (.pair (.sl (.sl (.pair (.int .i64) (.pair (.int .i64) (.pair (.str) (.unit)))))) (.unit))), .val (.sl (.pair (.int .i64) (.pair (.int .i64) (.pair (.str) (.unit)))))], [.val (.sl (.pair (.int .i64) (.pair (.int .i64) (.pair (.str) (.unit))))) (Mk.top (.sl (.pair (.int .i64) (.pair (.int .i64) (.pair (.str) (.unit)))))), .val (.bool) (Mk.top (.bool))]⟩) (⟨[], []⟩)))) (cond (n.ble 59) (cond (n.beq 59) (⟨[.mutv (.pair (.pair (.sl (.pair (.str) (.pair (.int .i64) (.pair (.bool) (.unit))))) (.pair (.sl (.int .i64)) (.pair (.sl (.pair (.str) (.pair (.sl (.int .i64)) (.pair (.bool) (.unit))))) (.unit)))) (.pair (.sl (.sl (.pair (.int .i64) (.pair (.int .i64) (.pair (.str) (.unit)))))) (.unit))) (Mk.top (.pair (.pair (.sl (.pair (.str) (.pair (.int .i64) (.pair (.bool) (.unit))))) (.pair (.sl (.int .i64)) (.pair (.sl (.pair (.str) (.pair (.sl (.int .i64)) (.pair (.bool) (.unit))))) (.unit)))) (.pair (.sl (.sl (.pair (.int .i64) (.pair (.int .i64) (.pair (.str) (.unit)))))) (.unit)))) (Mk.top (.pair (.pair (.sl (.pair (.str) (.pair (.int .i64) (.pair (.bool) (.unit))))) (.pair (.sl (.int .i64)) (.pair (.sl (.pair (.str) (.pair (.sl (.int .i64)) (.pair (.bool) (.unit))))) (.unit)))) (.pair (.sl (.sl (.pair (.int .i64) (.pair (.int .i64) (.pair (.str) (.unit)))))) (.unit)))), .val (.int .i64)], [.val (.int .i64) (Mk.top (.int .i64))]⟩) (⟨[], []⟩)) (cond (n.ble 60) (cond (n.beq 60) (⟨[.val (.pair (.sl (.pair (.str) (.pair (.int .i64) (.pair (.bool) (.unit))))) (.pair (.sl (.int .i64)) (.pair (.sl (.pair (.str) (.pair (.sl (.int .i64)) (.pair (.bool) (.unit))))) (.unit))))], [.val (.pair (.pair (.sl (.pair (.str) (.pair (.int .i64) (.pair (.bool) (.unit))))) (.pair (.sl (.int .i64)) (.pair (.sl (.pair (.str) (.pair (.sl (.int .i64)) (.pair (.bool) (.unit))))) (.unit)))) (.pair (.sl (.sl (.pair (.int .i64) (.pair (.int .i64) (.pair (.str) (.unit)))))) (.unit))) (Mk.pr Mk.no (Mk.pr (Mk.own 0 Mk.no) Mk.no)), .val (.bool) (Mk.top (.bool))]⟩) (⟨[], []⟩)) (cond (n.beq 61) (⟨[.val (.pair (.sl (.pair (.str) (.pair (.int .i64) (.pair (.bool) (.unit))))) (.pair (.sl (.int .i64)) (.pair (.sl (.pair (.str) (.pair (.sl (.int .i64)) (.pair (.bool) (.unit))))) (.unit))))], [.val (.pair (.pair (.sl (.pair (.str) (.pair (.int .i64) (.pair (.bool) (.unit))))) (.pair (.sl (.int .i64)) (.pair (.sl (.pair (.str) (.pair (.sl (.int .i64)) (.pair (.bool) (.unit))))) (.unit)))) (.pair (.sl (.sl (.pair (.int .i64) (.pair (.int .i64) (.pair (.str) (.unit)))))) (.unit))) (Mk.top (.pair (.pair (.sl (.pair (.str) (.pair (.int .i64) (.pair (.bool) (.unit))))) (.pair (.sl (.int .i64)) (.pair (.sl (.pair (.str) (.pair (.sl (.int .i64)) (.pair (.bool) (.unit))))) (.unit)))) (.pair (.sl (.sl (.pair (.int .i64) (.pair (.int .i64) (.pair (.str) (.unit)))))) (.unit)))), .val (.bool) (Mk.top (.bool))]⟩) (⟨[], []⟩)))))) (cond (n.ble 67) (cond (n.ble 64) (cond (n.ble 62) (cond (n.beq 62) (⟨[.val (.pair (.pair (.sl (.pair (.str) (.pair (.int .i64) (.pair (.bool) (.unit))))) (.pair (.sl (.int .i64)) (.pair (.sl (.pair (.str) (.pair (.sl (.int .i64)) (.pair (.bool) (.unit))))) (.unit)))) (.pair (.sl (.sl (.pair (.int .i64) (.pair (.int .i64) (.pair (.str) (.unit)))))) (.unit))), .val (.int .i64)], [.val (.int .i64) (Mk.top (.int .i64))]⟩) (⟨[], []⟩)) (cond (n.ble 63) (cond (n.beq 63) (⟨[.val (.pair (.pair (.sl (.pair (.str) (.pair (.int .i64) (.pair (.bool) (.unit))))) (.pair (.sl (.int .i64)) (.pair (.sl (.pair (.str) (.pair (.sl (.int .i64)) (.pair (.bool) (.unit))))) (.unit)))) (.pair (.sl (.sl (.pair (.int .i64) (.pair (.int .i64) (.pair (.str) (.unit)))))) (.unit))), .val (.sl (.pair (.int .i64) (.pair (.int .i64) (.pair (.str) (.unit)))))], [.val (.pair (.pair (.sl (.pair (.str) (.pair (.int .i64) (.pair (.bool) (.unit))))) (.pair (.sl (.int .i64)) (.pair (.sl (.pair (.str) (.pair (.sl (.int .i64)) (.pair (.bool) (.unit))))) (.unit)))) (.pair (.sl (.sl (.pair (.int .i64) (.pair (.int .i64) (.pair (.str) (.unit)))))) (.unit))) (Mk.pr Mk.no (Mk.pr (Mk.own 0 Mk.no) Mk.no)), .val (.int .i64) (Mk.top (.int .i64))]⟩) (⟨[], []⟩)) (cond (n.beq 64) (⟨[.val (.pair (.pair (.sl (.pair (.str) (.pair (.int .i64) (.pair (.bool) (.unit))))) (.pair (.sl (.int .i64)) (.pair (.sl (.pair (.str) (.pair (.sl (.int .i64)) (.pair (.bool) (.unit))))) (.unit)))) (.pair (.sl (.sl (.pair (.int .i64) (.pair (.int .i64) (.pair (.str) (.unit)))))) (.unit))), .val (.sl (.pair (.int .i64) (.pair (.int .i64) (.pair (.str) (.unit)))))], [.val (.pair (.pair (.sl (.pair (.str) (.pair (.int .i64) (.pair (.bool) (.unit))))) (.pair (.sl (.int .i64)) (.pair (.sl (.pair (.str) (.pair (.sl (.int .i64)) (.pair (.bool) (.unit))))) (.unit)))) (.pair (.sl (.sl (.pair (.int .i64) (.pair (.int .i64) (.pair (.str) (.unit)))))) (.unit))) (Mk.top (.pair (.pair (.sl (.pair (.str) (.pair (.int .i64) (.pair (.bool) (.unit))))) (.pair (.sl (.int .i64)) (.pair (.sl (.pair (.str) (.pair (.sl (.int .i64)) (.pair (.bool) (.unit))))) (.unit)))) (.pair (.sl (.sl (.pair (.int .i64) (.pair (.int .i64) (.pair (.str) (.unit)))))) (.unit)))), .val (.int .i64) (Mk.top (.int .i64))]⟩) (⟨[], []⟩)))) (cond (n.ble 65) (cond (n.beq 65) (⟨[.val (.sl (.int .u8))], [.val (.pair (.pair (.sl (.pair (.str) (.pair (.int .i64) (.pair (.bool) (.unit))))) (.pair (.sl (.int .i64)) (.pair (.sl (.pair (.str) (.pair (.sl (.int .i64)) (.pair (.bool) (.unit))))) (.unit)))) (.pair (.sl (.sl (.pair (.int .i64) (.pair (.int .i64) (.pair (.str) (.unit)))))) (.unit))) (Mk.no), .val (.int .i64) (Mk.top (.int .i64))]⟩) (⟨[], []⟩)) (cond (n.ble 66) (cond (n.beq 66) (⟨[.val (.pair (.pair (.sl (.pair (.str) (.pair (.int .i64) (.pair (.bool) (.unit))))) (.pair (.sl (.int .i64)) (.pair (.sl (.pair (.str) (.pair (.sl (.int .i64)) (.pair (.bool) (.unit))))) (.unit)))) (.pair (.sl (.sl (.pair (.int .i64) (.pair (.int .i64) (.pair (.str) (.unit)))))) (.unit))), .val (.int .i64)], [.val (.sl (.pair (.str) (.pair (.str) (.unit)))) (Mk.top (.sl (.pair (.str) (.pair (.str) (.unit)))))]⟩) (⟨[], []⟩)) (cond (n.beq 67) (⟨[.val (.sl (.pair (.str) (.pair (.str) (.unit)))), .val (.sl (.pair (.str) (.pair (.str) (.unit))))], [.val (.bool) (Mk.top (.bool))]⟩) (⟨[], []⟩))))) (cond (n.ble 70) (cond (n.ble 68) (cond (n.beq 68) (⟨[.val (.pair (.pair (.sl (.pair (.str) (.pair (.int .i64) (.pair (.bool) (.unit))))) (.pair (.sl (.int .i64)) (.pair (.sl (.pair (.str) (.pair (.sl (.int .i64)) (.pair (.bool) (.unit))))) (.unit)))) (.pair (.sl (.sl (.pair (.int .i64) (.pair (.int .i64) (.pair (.str) (.unit)))))) (.unit))), .val (.int .i64)], [.val (.sl (.pair (.str) (.pair (.str) (.unit)))) (Mk.top (.sl (.pair (.str) (.pair (.str) (.unit)))))]⟩) (⟨[], []⟩)) (cond (n.ble 69) (cond (n.beq 69) (⟨[.val (.pair (.str) (.pair (.str) (.unit))), .val (.pair (.str) (.pair (.str) (.unit)))], [.val (.bool) (Mk.top (.bool))]⟩) (⟨[], []⟩)) (cond (n.beq 70) (⟨[.val (.sl (.pair (.str) (.pair (.int .i64) (.pair (.bool) (.unit))))), .val (.int .i64)], [.val (.int .i64) (Mk.top (.int .i64))]⟩) (⟨[], []⟩)))) (cond (n.ble 71) (cond (n.beq 71) (⟨[.val (.sl (.int .i64)), .val (.int .i64)], [.val (.int .i64) (Mk.top (.int .i64))]⟩) (⟨[], []⟩)) (cond (n.ble 72) (cond (n.beq 72) (⟨[.val (.sl (.pair (.str) (.pair (.sl (.int .i64)) (.pair (.bool) (.unit))))), .val (.int .i64)], [.val (.int .i64) (Mk.top (.int .i64))]⟩) (⟨[], []⟩)) (cond (n.beq 73) (⟨[.val (.int .i64), .val (.int .i64), .val (.int .i64)], [.val (.bool) (Mk.top (.bool))]⟩) (⟨[], []⟩))))))) (cond (n.ble 85) (cond (n.ble 79) (cond (n.ble 76) (cond (n.ble 74) (cond (n.beq 74) (⟨[.val (.pair (.sl (.pair (.str) (.pair (.int .i64) (.pair (.bool) (.unit))))) (.pair (.sl (.int .i64)) (.pair (.sl (.pair (.str) (.pair (.sl (.int .i64)) (.pair (.bool) (.unit))))) (.unit)))), .val (.sl (.int .i64)), .val (.int .i64)], [.val (.bool) (Mk.top (.bool))]⟩) (⟨[], []⟩)) (cond (n.ble 75) (cond (n.beq 75) (⟨[.val (.pair (.sl (.pair (.str) (.pair (.int .i64) (.pair (.bool) (.unit))))) (.pair (.sl (.int .i64)) (.pair (.sl (.pair (.str) (.pair (.sl (.int .i64)) (.pair (.bool) (.unit))))) (.unit))))], [.val (.bool) (Mk.top (.bool))]⟩) (⟨[], []⟩)) (cond (n.beq 76) (⟨[.val (.sl (.pair (.str) (.pair (.int .i64) (.pair (.bool) (.unit)))))], [.val (.sl (.pair (.str) (.pair (.int .i64) (.pair (.bool) (.unit))))) (Mk.top (.sl (.pair (.str) (.pair (.int .i64) (.pair (.bool) (.unit))))))]⟩) (⟨[], []⟩)))) (cond (n.ble 77) (cond (n.beq 77) (⟨[.val (.sl (.int .i64))], [.val (.sl (.int .i64)) (Mk.top (.sl (.int .i64)))]⟩) (⟨[], []⟩)) (cond (n.ble 78) (cond (n.beq 78) (⟨[.val (.sl (.pair (.str) (.pair (.sl (.int .i64)) (.pair (.bool) (.unit)))))], [.val (.sl (.pair (.str) (.pair (.sl (.int .i64)) (.pair (.bool) (.unit))))) (Mk.top (.sl (.pair (.str) (.pair (.sl (.int .i64)) (.pair (.bool) (.unit))))))]⟩) (⟨[], []⟩)) (cond (n.beq 79) (⟨[.val (.int .i64), .val (.int .i64), .val (.int .i64)], [.val (.bool) (Mk.top (.bool))]⟩) (⟨[], []⟩))))) (cond (n.ble 82) (cond (n.ble 80) (cond (n.beq 80) (⟨[.val (.pair (.sl (.pair (.str) (.pair (.int .i64) (.pair (.bool) (.unit))))) (.pair (.sl (.int .i64)) (.pair (.sl (.pair (.str) (.pair (.sl (.int .i64)) (.pair (.bool) (.unit))))) (.unit)))), .val (.sl (.int .i64)), .val (.int .i64)], [.val (.bool) (Mk.top (.bool))]⟩) (⟨[], []⟩)) (cond (n.ble 81) (cond (n.beq 81) (⟨[.val (.sl (.pair (.str) (.pair (.sl (.int .i64)) (.pair (.bool) (.unit))))), .fn], [.val (.bool) (Mk.top (.bool))]⟩) (⟨[], []⟩)) (cond (n.beq 82) (⟨[.val (.pair (.str) (.pair (.sl (.int .i64)) (.pair (.bool) (.unit)))), .rptr (.pair (.str) (.pair (.sl (.int .i64)) (.pair (.bool) (.unit))))], [.val (.bool) (Mk.top (.bool))]⟩) (⟨[], []⟩)))) (cond (n.ble 83) (cond (n.beq 83) (⟨[.val (.sl (.int .i64)), .fn], [.val (.bool) (Mk.top (.bool))]⟩) (⟨[], []⟩)) (cond (n.ble 84) (cond (n.beq 84) (⟨[.val (.int .i64), .rptr (.pair (.sl (.pair (.str) (.pair (.int .i64) (.pair (.bool) (.unit))))) (.pair (.sl (.int .i64)) (.pair (.sl (.pair (.str) (.pair (.sl (.int .i64)) (.pair (.bool) (.unit))))) (.unit))))], [.val (.bool) (Mk.top (.bool))]⟩) (⟨[], []⟩)) (cond (n.beq 85) (⟨[.val (.sl (.pair (.str) (.pair (.int .i64) (.pair (.bool) (.unit))))), .val (.sl (.pair (.str) (.pair (.int .i64) (.pair (.bool) (.unit)))))], [.val (.bool) (Mk.top (.bool))]⟩) (⟨[], []⟩)))))) (cond (n.ble 91) (cond (n.ble 88) (cond (n.ble 86) (cond (n.beq 86) (⟨[.val (.sl (.int .i64)), .val (.sl (.int .i64))], [.val (.bool) (Mk.top (.bool))]⟩) (⟨[], []⟩)) (cond (n.ble 87) (cond (n.beq 87) (⟨[.val (.sl (.pair (.str) (.pair (.sl (.int .i64)) (.pair (.bool) (.unit))))), .val (.sl (.pair (.str) (.pair (.sl (.int .i64)) (.pair (.bool) (.unit)))))], [.val (.bool) (Mk.top (.bool))]⟩) (⟨[], []⟩)) (cond (n.beq 88) (⟨[.val (.sl (.int .u8))], [.ptr (.pair (.sl (.int .u8)) (.pair (.int .i64) (.pair (.int .i64) (.unit)))) (.no)]⟩) (⟨[], []⟩)))) (cond (n.ble 89) (cond (n.beq 89) (⟨[.mutp (.pair (.sl (.int .u8)) (.pair (.int .i64) (.pair (.int .i64) (.unit)))) (.no) (.no)], [.val (.pair (.sl (.pair (.str) (.pair (.int .i64) (.pair (.bool) (.unit))))) (.pair (.sl (.int .i64)) (.pair (.sl (.pair (.str) (.pair (.sl (.int .i64)) (.pair (.bool) (.unit))))) (.unit)))) (Mk.no)]⟩) (⟨[], []⟩)) (cond (n.ble 90) (cond (n.beq 90) (⟨[.mutp (.pair (.sl (.int .u8)) (.pair (.int .i64) (.pair (.int .i64) (.unit)))) (.no) (.no), .val (.pair (.sl (.pair (.str) (.pair (.int .i64) (.pair (.bool) (.unit))))) (.pair (.sl (.int .i64)) (.pair (.sl (.pair (.str) (.pair (.sl (.int .i64)) (.pair (.bool) (.unit))))) (.unit))))], [.val (.sl (.pair (.int .i64) (.pair (.int .i64) (.pair (.str) (.unit))))) (Mk.top (.sl (.pair (.int .i64) (.pair (.int .i64) (.pair (.str) (.unit))))))]⟩) (⟨[], []⟩)) (cond (n.beq 91) (⟨[.mutp (.pair (.sl (.int .u8)) (.pair (.int .i64) (.pair (.int .i64) (.unit)))) (.no) (.no), .val (.int .i64)], [.val (.int .i64) (Mk.top (.int .i64))]⟩) (⟨[], []⟩))))) (cond (n.ble 94) (cond (n.ble 92) (cond (n.beq 92) (⟨[.mutp (.pair (.sl (.int .u8)) (.pair (.int .i64) (.pair (.int .i64) (.unit)))) (.no) (.no)], [.val (.pair (.int .i64) (.pair (.int .i64) (.pair (.str) (.unit)))) (Mk.top (.pair (.int .i64) (.pair (.int .i64) (.pair (.str) (.unit)))))]⟩) (⟨[], []⟩)) (cond (n.ble 93) (cond (n.beq 93) (⟨[.mutp (.pair (.sl (.int .u8)) (.pair (.int .i64) (.pair (.int .i64) (.unit)))) (.no) (.no), .val (.sl (.str))], [.val (.str) (Mk.top (.str))]⟩) (⟨[], []⟩)) (cond (n.beq 94) (⟨[.val (.pair (.int .i64) (.pair (.int .i64) (.pair (.str) (.unit))))], [.val (.bool) (Mk.top (.bool))]⟩) (⟨[], []⟩)))) (cond (n.ble 95) (cond (n.beq 95) (⟨[.val (.pair (.int .i64) (.pair (.int .i64) (.pair (.str) (.unit))))], [.val (.bool) (Mk.top (.bool))]⟩) (⟨[], []⟩)) (cond (n.ble 96) (cond (n.beq 96) (⟨[.val (.sl (.pair (.str) (.pair (.int .i64) (.pair (.bool) (.unit))))), .fn], [.val (.int .i64) (Mk.top (.int .i64))]⟩) (⟨[], []⟩)) (cond (n.beq 97) (⟨[.val (.pair (.str) (.pair (.int .i64) (.pair (.bool) (.unit)))), .rptr (.str)], [.val (.bool) (Mk.top (.bool))]⟩) (⟨[], []⟩))))))))) (cond (n.ble 144) (cond (n.ble 120) (cond (n.ble 108) (cond (n.ble 102) (cond (n.ble 99) (cond (n.ble 98) (cond (n.beq 98) (⟨[.val (.sl (.pair (.int .i64) (.pair (.int .i64) (.pair (.str) (.unit))))), .val (.sl (.int .i64))], [.val (.sl (.pair (.int .i64) (.pair (.int .i64) (.pair (.str) (.unit))))) (Mk.top (.sl (.pair (.int .i64) (.pair (.int .i64) (.pair (.str) (.unit))))))]⟩) (⟨[], []⟩)) (cond (n.beq 99) (⟨[.val (.sl (.pair (.int .i64) (.pair (.int .i64) (.pair (.str) (.unit))))), .fn], [.val (.bool) (Mk.top (.bool))]⟩) (⟨[], []⟩))) (cond (n.ble 100) (cond (n.beq 100) (⟨[.val (.pair (.int .i64) (.pair (.int .i64) (.pair (.str) (.unit))))], [.val (.bool) (Mk.top (.bool))]⟩) (⟨[], []⟩)) (cond (n.ble 101) (cond (n.beq 101) (⟨[.val (.pair (.int .i64) (.pair (.int .i64) (.pair (.str) (.unit)))), .val (.int .i64)], [.val (.int .i64) (Mk.top (.int .i64))]⟩) (⟨[], []⟩)) (cond (n.beq 102) (⟨[.val (.pair (.int .i64) (.pair (.int .i64) (.pair (.str) (.unit))))], [.val (.pair (.int .i64) (.pair (.int .i64) (.pair (.str) (.unit)))) (Mk.top (.pair (.int .i64) (.pair (.int .i64) (.pair (.str) (.unit)))))]⟩) (⟨[], []⟩))))) (cond (n.ble 105) (cond (n.ble 103) (cond (n.beq 103) (⟨[.val (.pair (.int .i64) (.pair (.int .i64) (.pair (.str) (.unit)))), .val (.pair (.int .i64) (.pair (.int .i64) (.pair (.str) (.unit))))], [.val (.bool) (Mk.top (.bool))]⟩) (⟨[], []⟩)) (cond (n.ble 104) (cond (n.beq 104) (⟨[.mutv (.sl (.pair (.str) (.pair (.int .i64) (.pair (.bool) (.unit))))) (Mk.top (.sl (.pair (.str) (.pair (.int .i64) (.pair (.bool) (.unit)))))) (Mk.top (.sl (.pair (.str) (.pair (.int .i64) (.pair (.bool) (.unit)))))), .val (.int .i64)], [.val (.int .i64) (Mk.top (.int .i64))]⟩) (⟨[], []⟩)) (cond (n.beq 105) (⟨[.mutv (.sl (.int .i64)) (Mk.top (.sl (.int .i64))) (Mk.top (.sl (.int .i64))), .val (.int .i64)], [.val (.int .i64) (Mk.top (.int .i64))]⟩) (⟨[], []⟩)))) (cond (n.ble 106) (cond (n.beq 106) (⟨[.mutv (.sl (.pair (.str) (.pair (.sl (.int .i64)) (.pair (.bool) (.unit))))) (Mk.top (.sl (.pair (.str) (.pair (.sl (.int .i64)) (.pair (.bool) (.unit)))))) (Mk.top (.sl (.pair (.str) (.pair (.sl (.int .i64)) (.pair (.bool) (.unit)))))), .val (.int .i64)], [.val (.int .i64) (Mk.top (.int .i64))]⟩) (⟨[], []⟩)) (cond (n.ble 107) (cond (n.beq 107) (⟨[.val (.int .i64)], [.val (.str) (Mk.top (.str))]⟩) (⟨[], []⟩)) (cond (n.beq 108) (⟨[.val (.sl (.sl (.pair (.int .i64) (.pair (.int .i64) (.pair (.str) (.unit)))))), .val (.int .i64)], [.val (.int .i64) (Mk.top (.int .i64))]⟩) (⟨[], []⟩)))))) (cond (n.ble 114) (cond (n.ble 111) (cond (n.ble 109) (cond (n.beq 109) (⟨[.val (.sl (.pair (.int .i64) (.pair (.int .i64) (.pair (.str) (.unit)))))], [.val (.sl (.int .u8)) (Mk.top (.sl (.int .u8)))]⟩) (⟨[], []⟩)) (cond (n.ble 110) (cond (n.beq 110) (⟨[.val (.sl (.sl (.pair (.int .i64) (.pair (.int .i64) (.pair (.str) (.unit))))))], [.val (.sl (.sl (.pair (.int .i64) (.pair (.int .i64) (.pair (.str) (.unit)))))) (Mk.top (.sl (.sl (.pair (.int .i64) (.pair (.int .i64) (.pair (.str) (.unit)))))))]⟩) (⟨[], []⟩)) (cond (n.beq 111) (⟨[.val (.pair (.sl (.pair (.str) (.pair (.int .i64) (.pair (.bool) (.unit))))) (.pair (.sl (.int .i64)) (.pair (.sl (.pair (.str) (.pair (.sl (.int .i64)) (.pair (.bool) (.unit))))) (.unit)))), .val (.int .i64), .val (.sl (.pair (.int .i64) (.pair (.int .i64) (.pair (.str) (.unit)))))], [.val (.pair (.str) (.pair (.str) (.unit))) (Mk.top (.pair (.str) (.pair (.str) (.unit))))]⟩) (⟨[], []⟩)))) (cond (n.ble 112) (cond (n.beq 112) (⟨[.val (.sl (.sl (.pair (.int .i64) (.pair (.int .i64) (.pair (.str) (.unit)))))), .val (.sl (.sl (.pair (.int .i64) (.pair (.int .i64) (.pair (.str) (.unit))))))], [.val (.bool) (Mk.top (.bool))]⟩) (⟨[], []⟩)) (cond (n.ble 113) (cond (n.beq 113) (⟨[.val (.sl (.pair (.int .i64) (.pair (.int .i64) (.pair (.str) (.unit))))), .val (.sl (.pair (.int .i64) (.pair (.int .i64) (.pair (.str) (.unit)))))], [.val (.bool) (Mk.top (.bool))]⟩) (⟨[], []⟩)) (cond (n.beq 114) (⟨[.val (.pair (.sl (.pair (.str) (.pair (.int .i64) (.pair (.bool) (.unit))))) (.pair (.sl (.int .i64)) (.pair (.sl (.pair (.str) (.pair (.sl (.int .i64)) (.pair (.bool) (.unit))))) (.unit)))), .val (.sl (.pair (.int .i64) (.pair (.int .i64) (.pair (.str) (.unit))))), .val (.sl (.pair (.int .i64) (.pair (.int .i64) (.pair (.str) (.unit)))))], [.val (.bool) (Mk.top (.bool))]⟩) (⟨[], []⟩))))) (cond (n.ble 117) (cond (n.ble 115) (cond (n.beq 115) (⟨[.val (.sl (.pair (.int .i64) (.pair (.int .i64) (.pair (.str) (.unit))))), .val (.sl (.pair (.int .i64) (.pair (.int .i64) (.pair (.str) (.unit)))))], [.val (.bool) (Mk.top (.bool))]⟩) (⟨[], []⟩)) (cond (n.ble 116) (cond (n.beq 116) (⟨[.val (.sl (.sl (.pair (.int .i64) (.pair (.int .i64) (.pair (.str) (.unit)))))), .fn], [.val (.bool) (Mk.top (.bool))]⟩) (⟨[], []⟩)) (cond (n.beq 117) (⟨[.val (.sl (.pair (.int .i64) (.pair (.int .i64) (.pair (.str) (.unit))))), .rptr (.pair (.pair (.sl (.pair (.str) (.pair (.int .i64) (.pair (.bool) (.unit))))) (.pair (.sl (.int .i64)) (.pair (.sl (.pair (.str) (.pair (.sl (.int .i64)) (.pair (.bool) (.unit))))) (.unit)))) (.pair (.sl (.sl (.pair (.int .i64) (.pair (.int .i64) (.pair (.str) (.unit)))))) (.unit))), .rptr (.sl (.pair (.int .i64) (.pair (.int .i64) (.pair (.str) (.unit)))))], [.val (.bool) (Mk.top (.bool))]⟩) (⟨[], []⟩)))) (cond (n.ble 118) (cond (n.beq 118) (⟨[.val (.pair (.sl (.pair (.str) (.pair (.int .i64) (.pair (.bool) (.unit))))) (.pair (.sl (.int .i64)) (.pair (.sl (.pair (.str) (.pair (.sl (.int .i64)) (.pair (.bool) (.unit))))) (.unit)))), .val (.sl (.pair (.int .i64) (.pair (.int .i64) (.pair (.str) (.unit))))), .val (.sl (.pair (.int .i64) (.pair (.int .i64) (.pair (.str) (.unit)))))], [.val (.bool) (Mk.top (.bool))]⟩) (⟨[], []⟩)) (cond (n.ble 119) (cond (n.beq 119) (⟨[.mutp (.pair (.sl (.int .u8)) (.pair (.int .i64) (.pair (.int .i64) (.unit)))) (.no) (.no)], [.val (.pair (.pair (.sl (.pair (.str) (.pair (.int .i64) (.pair (.bool) (.unit))))) (.pair (.sl (.int .i64)) (.pair (.sl (.pair (.str) (.pair (.sl (.int .i64)) (.pair (.bool) (.unit))))) (.unit)))) (.pair (.sl (.sl (.pair (.int .i64) (.pair (.int .i64) (.pair (.str) (.unit)))))) (.unit))) (Mk.pr Mk.no (Mk.pr (Mk.own 0 Mk.no) Mk.no))]⟩) (⟨[], []⟩)) (cond (n.beq 120) (⟨[.mutp (.pair (.sl (.int .u8)) (.pair (.int .i64) (.pair (.int .i64) (.unit)))) (.no) (.no), .val (.pair (.pair (.sl (.pair (.str) (.pair (.int .i64) (.pair (.bool) (.unit))))) (.pair (.sl (.int .i64)) (.pair (.sl (.pair (.str) (.pair (.sl (.int .i64)) (.pair (.bool) (.unit))))) (.unit)))) (.pair (.sl (.sl (.pair (.int .i64) (.pair (.int .i64) (.pair (.str) (.unit)))))) (.unit)))], [.val (.sl (.pair (.int .i64) (.pair (.int .i64) (.pair (.str) (.unit))))) (Mk.top (.sl (.pair (.int .i64) (.pair (.int .i64) (.pair (.str) (.unit))))))]⟩) (⟨[], []⟩))))))) (cond (n.ble 132) (cond (n.ble 126) (cond (n.ble 123) (cond (n.ble 121) (cond (n.beq 121) (⟨[.val (.pair (.pair (.sl (.pair (.str) (.pair (.int .i64) (.pair (.bool) (.unit))))) (.pair (.sl (.int .i64)) (.pair (.sl (.pair (.str) (.pair (.sl (.int .i64)) (.pair (.bool) (.unit))))) (.unit)))) (.pair (.sl (.sl (.pair (.int .i64) (.pair (.int .i64) (.pair (.str) (.unit)))))) (.unit)))], [.val (.pair (.pair (.sl (.pair (.str) (.pair (.int .i64) (.pair (.bool) (.unit))))) (.pair (.sl (.int .i64)) (.pair (.sl (.pair (.str) (.pair (.sl (.int .i64)) (.pair (.bool) (.unit))))) (.unit)))) (.pair (.sl (.sl (.pair (.int .i64) (.pair (.int .i64) (.pair (.str) (.unit)))))) (.unit))) (Mk.top (.pair (.pair (.sl (.pair (.str) (.pair (.int .i64) (.pair (.bool) (.unit))))) (.pair (.sl (.int .i64)) (.pair (.sl (.pair (.str) (.pair (.sl (.int .i64)) (.pair (.bool) (.unit))))) (.unit)))) (.pair (.sl (.sl (.pair (.int .i64) (.pair (.int .i64) (.pair (.str) (.unit)))))) (.unit))))]⟩) (⟨[], []⟩)) (cond (n.ble 122) (cond (n.beq 122) (⟨[.val (.pair (.pair (.sl (.pair (.str) (.pair (.int .i64) (.pair (.bool) (.unit))))) (.pair (.sl (.int .i64)) (.pair (.sl (.pair (.str) (.pair (.sl (.int .i64)) (.pair (.bool) (.unit))))) (.unit)))) (.pair (.sl (.sl (.pair (.int .i64) (.pair (.int .i64) (.pair (.str) (.unit)))))) (.unit))), .val (.sl (.pair (.int .i64) (.pair (.int .i64) (.pair (.str) (.unit)))))], [.val (.int .i64) (Mk.top (.int .i64))]⟩) (⟨[], []⟩)) (cond (n.beq 123) (⟨[.val (.sl (.pair (.int .i64) (.pair (.int .i64) (.pair (.str) (.unit)))))], [.val (.sl (.pair (.int .i64) (.pair (.int .i64) (.pair (.str) (.unit))))) (Mk.top (.sl (.pair (.int .i64) (.pair (.int .i64) (.pair (.str) (.unit))))))]⟩) (⟨[], []⟩)))) (cond (n.ble 124) (cond (n.beq 124) (⟨[.val (.pair (.pair (.sl (.pair (.str) (.pair (.int .i64) (.pair (.bool) (.unit))))) (.pair (.sl (.int .i64)) (.pair (.sl (.pair (.str) (.pair (.sl (.int .i64)) (.pair (.bool) (.unit))))) (.unit)))) (.pair (.sl (.sl (.pair (.int .i64) (.pair (.int .i64) (.pair (.str) (.unit)))))) (.unit)))], [.val (.pair (.pair (.sl (.pair (.str) (.pair (.int .i64) (.pair (.bool) (.unit))))) (.pair (.sl (.int .i64)) (.pair (.sl (.pair (.str) (.pair (.sl (.int .i64)) (.pair (.bool) (.unit))))) (.unit)))) (.pair (.sl (.sl (.pair (.int .i64) (.pair (.int .i64) (.pair (.str) (.unit)))))) (.unit))) (Mk.top (.pair (.pair (.sl (.pair (.str) (.pair (.int .i64) (.pair (.bool) (.unit))))) (.pair (.sl (.int .i64)) (.pair (.sl (.pair (.str) (.pair (.sl (.int .i64)) (.pair (.bool) (.unit))))) (.unit)))) (.pair (.sl (.sl (.pair (.int .i64) (.pair (.int .i64) (.pair (.str) (.unit)))))) (.unit))))]⟩) (⟨[], []⟩)) (cond (n.ble 125) (cond (n.beq 125) (⟨[.val (.pair (.pair (.sl (.pair (.str) (.pair (.int .i64) (.pair (.bool) (.unit))))) (.pair (.sl (.int .i64)) (.pair (.sl (.pair (.str) (.pair (.sl (.int .i64)) (.pair (.bool) (.unit))))) (.unit)))) (.pair (.sl (.sl (.pair (.int .i64) (.pair (.int .i64) (.pair (.str) (.unit)))))) (.unit))), .val (.sl (.pair (.int .i64) (.pair (.int .i64) (.pair (.str) (.unit)))))], [.val (.int .i64) (Mk.top (.int .i64))]⟩) (⟨[], []⟩)) (cond (n.beq 126) (⟨[.val (.pair (.pair (.sl (.pair (.str) (.pair (.int .i64) (.pair (.bool) (.unit))))) (.pair (.sl (.int .i64)) (.pair (.sl (.pair (.str) (.pair (.sl (.int .i64)) (.pair (.bool) (.unit))))) (.unit)))) (.pair (.sl (.sl (.pair (.int .i64) (.pair (.int .i64) (.pair (.str) (.unit)))))) (.unit))), .val (.sl (.pair (.int .i64) (.pair (.int .i64) (.pair (.str) (.unit))))), .val (.int .i64)], [.val (.bool) (Mk.top (.bool))]⟩) (⟨[], []⟩))))) (cond (n.ble 129) (cond (n.ble 127) (cond (n.beq 127) (⟨[.val (.sl (.sl (.pair (.int .i64) (.pair (.int .i64) (.pair (.str) (.unit)))))), .val (.sl (.sl (.pair (.int .i64) (.pair (.int .i64) (.pair (.str) (.unit))))))], [.val (.bool) (Mk.top (.bool))]⟩) (⟨[], []⟩)) (cond (n.ble 128) (cond (n.beq 128) (⟨[.val (.sl (.int .i64)), .val (.sl (.int .i64))], [.val (.bool) (Mk.top (.bool))]⟩) (⟨[], []⟩)) (cond (n.beq 129) (⟨[.val (.sl (.pair (.int .i64) (.pair (.int .i64) (.pair (.str) (.unit))))), .rptr (.pair (.pair (.sl (.pair (.str) (.pair (.int .i64) (.pair (.bool) (.unit))))) (.pair (.sl (.int .i64)) (.pair (.sl (.pair (.str) (.pair (.sl (.int .i64)) (.pair (.bool) (.unit))))) (.unit)))) (.pair (.sl (.sl (.pair (.int .i64) (.pair (.int .i64) (.pair (.str) (.unit)))))) (.unit))), .rptr (.sl (.pair (.int .i64) (.pair (.int .i64) (.pair (.str) (.unit)))))], [.val (.bool) (Mk.top (.bool))]⟩) (⟨[], []⟩)))) (cond (n.ble 130) (cond (n.beq 130) (⟨[.val (.sl (.sl (.pair (.int .i64) (.pair (.int .i64) (.pair (.str) (.unit)))))), .fn], [.val (.int .i64) (Mk.top (.int .i64))]⟩) (⟨[], []⟩)) (cond (n.ble 131) (cond (n.beq 131) (⟨[.val (.sl (.pair (.int .i64) (.pair (.int .i64) (.pair (.str) (.unit))))), .rptr (.sl (.pair (.int .i64) (.pair (.int .i64) (.pair (.str) (.unit))))), .rptr (.pair (.pair (.sl (.pair (.str) (.pair (.int .i64) (.pair (.bool) (.unit))))) (.pair (.sl (.int .i64)) (.pair (.sl (.pair (.str) (.pair (.sl (.int .i64)) (.pair (.bool) (.unit))))) (.unit)))) (.pair (.sl (.sl (.pair (.int .i64) (.pair (.int .i64) (.pair (.str) (.unit)))))) (.unit)))], [.val (.bool) (Mk.top (.bool))]⟩) (⟨[], []⟩)) (cond (n.beq 132) (⟨[.own (.sl (.sl (.pair (.int .i64) (.pair (.int .i64) (.pair (.str) (.unit)))))) (Mk.top (.sl (.sl (.pair (.int .i64) (.pair (.int .i64) (.pair (.str) (.unit))))))), .val (.int .i64), .own (.sl (.sl (.pair (.int .i64) (.pair (.int .i64) (.pair (.str) (.unit)))))) (Mk.top (.sl (.sl (.pair (.int .i64) (.pair (.int .i64) (.pair (.str) (.unit)))))))], [.val (.sl (.sl (.pair (.int .i64) (.pair (.int .i64) (.pair (.str) (.unit)))))) (Mk.top (.sl (.sl (.pair (.int .i64) (.pair (.int .i64) (.pair (.str) (.unit)))))))]⟩) (⟨[], []⟩)))))) (cond (n.ble 138) (cond (n.ble 135) (cond (n.ble 133) (cond (n.beq 133) (⟨[.mutv (.sl (.sl (.pair (.int .i64) (.pair (.int .i64) (.pair (.str) (.unit)))))) (Mk.top (.sl (.sl (.pair (.int .i64) (.pair (.int .i64) (.pair (.str) (.unit))))))) (Mk.top (.sl (.sl (.pair (.int .i64) (.pair (.int .i64) (.pair (.str) (.unit))))))), .val (.int .i64)], [.val (.int .i64) (Mk.top (.int .i64))]⟩) (⟨[], []⟩)) (cond (n.ble 134) (cond (n.beq 134) (⟨[.val (.pair (.sl (.pair (.str) (.pair (.int .i64) (.pair (.bool) (.unit))))) (.pair (.sl (.int .i64)) (.pair (.sl (.pair (.str) (.pair (.sl (.int .i64)) (.pair (.bool) (.unit))))) (.unit))))], [.val (.pair (.sl (.pair (.str) (.pair (.int .i64) (.pair (.bool) (.unit))))) (.pair (.sl (.int .i64)) (.pair (.sl (.pair (.str) (.pair (.sl (.int .i64)) (.pair (.bool) (.unit))))) (.unit)))) (Mk.top (.pair (.sl (.pair (.str) (.pair (.int .i64) (.pair (.bool) (.unit))))) (.pair (.sl (.int .i64)) (.pair (.sl (.pair (.str) (.pair (.sl (.int .i64)) (.pair (.bool) (.unit))))) (.unit)))))]⟩) (⟨[], []⟩)) (cond (n.beq 135) (⟨[.val (.pair (.sl (.pair (.str) (.pair (.int .i64) (.pair (.bool) (.unit))))) (.pair (.sl (.int .i64)) (.pair (.sl (.pair (.str) (.pair (.sl (.int .i64)) (.pair (.bool) (.unit))))) (.unit))))], [.val (.pair (.sl (.pair (.str) (.pair (.int .i64) (.pair (.bool) (.unit))))) (.pair (.sl (.int .i64)) (.pair (.sl (.pair (.str) (.pair (.sl (.int .i64)) (.pair (.bool) (.unit))))) (.unit)))) (Mk.top (.pair (.sl (.pair (.str) (.pair (.int .i64) (.pair (.bool) (.unit))))) (.pair (.sl (.int .i64)) (.pair (.sl (.pair (.str) (.pair (.sl (.int .i64)) (.pair (.bool) (.unit))))) (.unit)))))]⟩) (⟨[], []⟩)))) (cond (n.ble 136) (cond (n.beq 136) (⟨[.val (.pair (.sl (.pair (.str) (.pair (.int .i64) (.pair (.bool) (.unit))))) (.pair (.sl (.int .i64)) (.pair (.sl (.pair (.str) (.pair (.sl (.int .i64)) (.pair (.bool) (.unit))))) (.unit)))), .val (.int .i64)], [.val (.int .i64) (Mk.top (.int .i64))]⟩) (⟨[], []⟩)) (cond (n.ble 137) (cond (n.beq 137) (⟨[.val (.sl (.sl (.pair (.int .i64) (.pair (.int .i64) (.pair (.str) (.unit)))))), .val (.int .i64)], [.val (.int .i64) (Mk.top (.int .i64))]⟩) (⟨[], []⟩)) (cond (n.beq 138) (⟨[.val (.sl (.sl (.pair (.int .i64) (.pair (.int .i64) (.pair (.str) (.unit))))))], [.val (.sl (.sl (.pair (.int .i64) (.pair (.int .i64) (.pair (.str) (.unit)))))) (Mk.top (.sl (.sl (.pair (.int .i64) (.pair (.int .i64) (.pair (.str) (.unit)))))))]⟩) (⟨[], []⟩))))) (cond (n.ble 141) (cond (n.ble 139) (cond (n.beq 139) (⟨[.own (.sl (.sl (.pair (.int .i64) (.pair (.int .i64) (.pair (.str) (.unit)))))) (Mk.top (.sl (.sl (.pair (.int .i64) (.pair (.int .i64) (.pair (.str) (.unit))))))), .val (.int .i64), .val (.int .i64)], [.val (.sl (.sl (.pair (.int .i64) (.pair (.int .i64) (.pair (.str) (.unit)))))) (Mk.top (.sl (.sl (.pair (.int .i64) (.pair (.int .i64) (.pair (.str) (.unit)))))))]⟩) (⟨[], []⟩)) (cond (n.ble 140) (cond (n.beq 140) (⟨[.mutp (.pair (.sl (.int .u8)) (.pair (.int .i64) (.pair (.int .i64) (.unit)))) (.no) (.no)], [.val (.pair (.pair (.sl (.pair (.str) (.pair (.int .i64) (.pair (.bool) (.unit))))) (.pair (.sl (.int .i64)) (.pair (.sl (.pair (.str) (.pair (.sl (.int .i64)) (.pair (.bool) (.unit))))) (.unit)))) (.pair (.sl (.sl (.pair (.int .i64) (.pair (.int .i64) (.pair (.str) (.unit)))))) (.unit))) (Mk.no)]⟩) (⟨[], []⟩)) (cond (n.beq 141) (⟨[.val (.sl (.pair (.str) (.pair (.str) (.unit)))), .val (.pair (.str) (.pair (.str) (.unit)))], [.val (.sl (.pair (.str) (.pair (.str) (.unit)))) (Mk.top (.sl (.pair (.str) (.pair (.str) (.unit)))))]⟩) (⟨[], []⟩)))) (cond (n.ble 142) (cond (n.beq 142) (⟨[.val (.sl (.pair (.str) (.pair (.str) (.unit)))), .val (.pair (.str) (.pair (.str) (.unit)))], [.val (.sl (.pair (.str) (.pair (.str) (.unit)))) (Mk.top (.sl (.pair (.str) (.pair (.str) (.unit)))))]⟩) (⟨[], []⟩)) (cond (n.ble 143) (cond (n.beq 143) (⟨[.val (.pair (.str) (.pair (.int .i64) (.pair (.bool) (.unit)))), .val (.int .i64)], [.val (.int .i64) (Mk.top (.int .i64))]⟩) (⟨[], []⟩)) (cond (n.beq 144) (⟨[.val (.pair (.str) (.pair (.sl (.int .i64)) (.pair (.bool) (.unit)))), .val (.int .i64)], [.val (.int .i64) (Mk.top (.int .i64))]⟩) (⟨[], []⟩)))))))) (cond (n.ble 168) (cond (n.ble 156) (cond (n.ble 150) (cond (n.ble 147) (cond (n.ble 145) (cond (n.beq 145) (⟨[.val (.pair (.str) (.pair (.int .i64) (.pair (.bool) (.unit))))], [.val (.pair (.str) (.pair (.int .i64) (.pair (.bool) (.unit)))) (Mk.top (.pair (.str) (.pair (.int .i64) (.pair (.bool) (.unit)))))]⟩) (⟨[], []⟩)) (cond (n.ble 146) (cond (n.beq 146) (⟨[.val (.pair (.str) (.pair (.sl (.int .i64)) (.pair (.bool) (.unit))))], [.val (.pair (.str) (.pair (.sl (.int .i64)) (.pair (.bool) (.unit)))) (Mk.top (.pair (.str) (.pair (.sl (.int .i64)) (.pair (.bool) (.unit)))))]⟩) (⟨[], []⟩)) (cond (n.beq 147) (⟨[.val (.sl (.int .i64)), .val (.int .i64)], [.val (.bool) (Mk.top (.bool))]⟩) (⟨[], []⟩)))) (cond (n.ble 148) (cond (n.beq 148) (⟨[.val (.sl (.pair (.str) (.pair (.sl (.int .i64)) (.pair (.bool) (.unit))))), .fn], [.val (.int .i64) (Mk.top (.int .i64))]⟩) (⟨[], []⟩)) (cond (n.ble 149) (cond (n.beq 149) (⟨[.val (.sl (.int .i64)), .fn], [.val (.int .i64) (Mk.top (.int .i64))]⟩) (⟨[], []⟩)) (cond (n.beq 150) (⟨[.val (.pair (.str) (.pair (.int .i64) (.pair (.bool) (.unit)))), .val (.pair (.str) (.pair (.int .i64) (.pair (.bool) (.unit))))], [.val (.bool) (Mk.top (.bool))]⟩) (⟨[], []⟩))))) (cond (n.ble 153) (cond (n.ble 151) (cond (n.beq 151) (⟨[.val (.pair (.str) (.pair (.sl (.int .i64)) (.pair (.bool) (.unit)))), .val (.pair (.str) (.pair (.sl (.int .i64)) (.pair (.bool) (.unit))))], [.val (.bool) (Mk.top (.bool))]⟩) (⟨[], []⟩)) (cond (n.ble 152) (cond (n.beq 152) (⟨[.mutp (.pair (.sl (.int .u8)) (.pair (.int .i64) (.pair (.int .i64) (.unit)))) (.no) (.no)], [.val (.pair (.sl (.pair (.str) (.pair (.int .i64) (.pair (.bool) (.unit))))) (.pair (.sl (.int .i64)) (.pair (.sl (.pair (.str) (.pair (.sl (.int .i64)) (.pair (.bool) (.unit))))) (.unit)))) (Mk.top (.pair (.sl (.pair (.str) (.pair (.int .i64) (.pair (.bool) (.unit))))) (.pair (.sl (.int .i64)) (.pair (.sl (.pair (.str) (.pair (.sl (.int .i64)) (.pair (.bool) (.unit))))) (.unit)))))]⟩) (⟨[], []⟩)) (cond (n.beq 153) (⟨[.mutp (.pair (.sl (.int .u8)) (.pair (.int .i64) (.pair (.int .i64) (.unit)))) (.no) (.no), .val (.sl (.int .i64))], [.val (.int .i64) (Mk.top (.int .i64))]⟩) (⟨[], []⟩)))) (cond (n.ble 154) (cond (n.beq 154) (⟨[.mutp (.pair (.sl (.int .u8)) (.pair (.int .i64) (.pair (.int .i64) (.unit)))) (.no) (.no), .val (.int .i64)], [.val (.bool) (Mk.top (.bool))]⟩) (⟨[], []⟩)) (cond (n.ble 155) (cond (n.beq 155) (⟨[.mutp (.pair (.sl (.int .u8)) (.pair (.int .i64) (.pair (.int .i64) (.unit)))) (.no) (.no), .val (.int .i64)], [.val (.pair (.int .i64) (.pair (.int .i64) (.pair (.str) (.unit)))) (Mk.top (.pair (.int .i64) (.pair (.int .i64) (.pair (.str) (.unit)))))]⟩) (⟨[], []⟩)) (cond (n.beq 156) (⟨[.mutp (.pair (.sl (.int .u8)) (.pair (.int .i64) (.pair (.int .i64) (.unit)))) (.no) (.no)], [.val (.int .i64) (Mk.top (.int .i64))]⟩) (⟨[], []⟩)))))) (cond (n.ble 162) (cond (n.ble 159) (cond (n.ble 157) (cond (n.beq 157) (⟨[.mutp (.pair (.sl (.int .u8)) (.pair (.int .i64) (.pair (.int .i64) (.unit)))) (.no) (.no)], [.val (.pair (.int .i64) (.pair (.int .i64) (.pair (.str) (.unit)))) (Mk.top (.pair (.int .i64) (.pair (.int .i64) (.pair (.str) (.unit)))))]⟩) (⟨[], []⟩)) (cond (n.ble 158) (cond (n.beq 158) (⟨[.val (.sl (.pair (.int .i64) (.pair (.int .i64) (.pair (.str) (.unit))))), .fn], [.val (.int .i64) (Mk.top (.int .i64))]⟩) (⟨[], []⟩)) (cond (n.beq 159) (⟨[.val (.sl (.pair (.int .i64) (.pair (.int .i64) (.pair (.str) (.unit)))))], [.val (.bool) (Mk.top (.bool))]⟩) (⟨[], []⟩)))) (cond (n.ble 160) (cond (n.beq 160) (⟨[.val (.pair (.int .i64) (.pair (.int .i64) (.pair (.str) (.unit))))], [.val (.sl (.int .u8)) (Mk.top (.sl (.int .u8)))]⟩) (⟨[], []⟩)) (cond (n.ble 161) (cond (n.beq 161) (⟨[.val (.sl (.pair (.int .i64) (.pair (.int .i64) (.pair (.str) (.unit)))))], [.val (.sl (.int .u8)) (Mk.top (.sl (.int .u8)))]⟩) (⟨[], []⟩)) (cond (n.beq 162) (⟨[.val (.pair (.int .i64) (.pair (.int .i64) (.pair (.str) (.unit)))), .val (.pair (.int .i64) (.pair (.int .i64) (.pair (.str) (.unit))))], [.val (.bool) (Mk.top (.bool))]⟩) (⟨[], []⟩))))) (cond (n.ble 165) (cond (n.ble 163) (cond (n.beq 163) (⟨[.val (.pair (.int .i64) (.pair (.int .i64) (.pair (.str) (.unit)))), .val (.pair (.int .i64) (.pair (.int .i64) (.pair (.str) (.unit))))], [.val (.bool) (Mk.top (.bool))]⟩) (⟨[], []⟩)) (cond (n.ble 164) (cond (n.beq 164) (⟨[.val (.sl (.pair (.int .i64) (.pair (.int .i64) (.pair (.str) (.unit))))), .val (.sl (.pair (.int .i64) (.pair (.int .i64) (.pair (.str) (.unit)))))], [.val (.bool) (Mk.top (.bool))]⟩) (⟨[], []⟩)) (cond (n.beq 165) (⟨[.val (.sl (.pair (.int .i64) (.pair (.int .i64) (.pair (.str) (.unit)))))], [.val (.bool) (Mk.top (.bool))]⟩) (⟨[], []⟩)))) (cond (n.ble 166) (cond (n.beq 166) (⟨[.val (.sl (.pair (.int .i64) (.pair (.int .i64) (.pair (.str) (.unit))))), .val (.sl (.pair (.int .i64) (.pair (.int .i64) (.pair (.str) (.unit))))), .fn], [.val (.int .i64) (Mk.top (.int .i64))]⟩) (⟨[], []⟩)) (cond (n.ble 167) (cond (n.beq 167) (⟨[.val (.pair (.int .i64) (.pair (.int .i64) (.pair (.str) (.unit)))), .val (.pair (.int .i64) (.pair (.int .i64) (.pair (.str) (.unit))))], [.val (.int .i64) (Mk.top (.int .i64))]⟩) (⟨[], []⟩)) (cond (n.beq 168) (⟨[.val (.pair (.str) (.pair (.sl (.int .i64)) (.pair (.bool) (.unit)))), .rptr (.sl (.pair (.int .i64) (.pair (.int .i64) (.pair (.str) (.unit))))), .rptr (.sl (.pair (.int .i64) (.pair (.int .i64) (.pair (.str) (.unit)))))], [.val (.bool) (Mk.top (.bool))]⟩) (⟨[], []⟩))))))) (cond (n.ble 181) (cond (n.ble 175) (cond (n.ble 171) (cond (n.ble 169) (cond (n.beq 169) (⟨[.val (.sl (.pair (.int .i64) (.pair (.int .i64) (.pair (.str) (.unit))))), .val (.pair (.int .i64) (.pair (.int .i64) (.pair (.str) (.unit))))], [.val (.bool) (Mk.top (.bool))]⟩) (⟨[], []⟩)) (cond (n.ble 170) (cond (n.beq 170) (⟨[.val (.sl (.pair (.int .i64) (.pair (.int .i64) (.pair (.str) (.unit))))), .val (.sl (.pair (.int .i64) (.pair (.int .i64) (.pair (.str) (.unit)))))], [.val (.bool) (Mk.top (.bool))]⟩) (⟨[], []⟩)) (cond (n.beq 171) (⟨[.val (.pair (.pair (.sl (.pair (.str) (.pair (.int .i64) (.pair (.bool) (.unit))))) (.pair (.sl (.int .i64)) (.pair (.sl (.pair (.str) (.pair (.sl (.int .i64)) (.pair (.bool) (.unit))))) (.unit)))) (.pair (.sl (.sl (.pair (.int .i64) (.pair (.int .i64) (.pair (.str) (.unit)))))) (.unit))), .val (.sl (.pair (.int .i64) (.pair (.int .i64) (.pair (.str) (.unit)))))], [.val (.pair (.pair (.sl (.pair (.str) (.pair (.int .i64) (.pair (.bool) (.unit))))) (.pair (.sl (.int .i64)) (.pair (.sl (.pair (.str) (.pair (.sl (.int .i64)) (.pair (.bool) (.unit))))) (.unit)))) (.pair (.sl (.sl (.pair (.int .i64) (.pair (.int .i64) (.pair (.str) (.unit)))))) (.unit))) (Mk.pr Mk.no (Mk.pr (Mk.own 0 Mk.no) Mk.no)), .val (.int .i64) (Mk.top (.int .i64))]⟩) (⟨[], []⟩)))) (cond (n.ble 172) (cond (n.beq 172) (⟨[.val (.sl (.sl (.pair (.int .i64) (.pair (.int .i64) (.pair (.str) (.unit))))))], [.val (.sl (.sl (.pair (.int .i64) (.pair (.int .i64) (.pair (.str) (.unit)))))) (Mk.top (.sl (.sl (.pair (.int .i64) (.pair (.int .i64) (.pair (.str) (.unit)))))))]⟩) (⟨[], []⟩)) (cond (n.ble 173) (cond (n.beq 173) (⟨[.val (.sl (.pair (.int .i64) (.pair (.int .i64) (.pair (.str) (.unit))))), .rptr (.pair (.pair (.sl (.pair (.str) (.pair (.int .i64) (.pair (.bool) (.unit))))) (.pair (.sl (.int .i64)) (.pair (.sl (.pair (.str) (.pair (.sl (.int .i64)) (.pair (.bool) (.unit))))) (.unit)))) (.pair (.sl (.sl (.pair (.int .i64) (.pair (.int .i64) (.pair (.str) (.unit)))))) (.unit))), .rptr (.sl (.pair (.int .i64) (.pair (.int .i64) (.pair (.str) (.unit)))))], [.val (.bool) (Mk.top (.bool))]⟩) (⟨[], []⟩)) (cond (n.beq 175) (⟨[.val (.sl (.sl (.pair (.int .i64) (.pair (.int .i64) (.pair (.str) (.unit)))))), .val (.int .i64)], []⟩) (⟨[], []⟩))))) (cond (n.ble 178) (cond (n.ble 176) (cond (n.beq 176) (⟨[.val (.sl (.pair (.str) (.pair (.int .i64) (.pair (.bool) (.unit)))))], [.val (.sl (.pair (.str) (.pair (.int .i64) (.pair (.bool) (.unit))))) (Mk.top (.sl (.pair (.str) (.pair (.int .i64) (.pair (.bool) (.unit))))))]⟩) (⟨[], []⟩)) (cond (n.ble 177) (cond (n.beq 177) (⟨[.val (.sl (.int .i64))], [.val (.sl (.int .i64)) (Mk.top (.sl (.int .i64)))]⟩) (⟨[], []⟩)) (cond (n.beq 178) (⟨[.val (.sl (.pair (.str) (.pair (.int .i64) (.pair (.bool) (.unit))))), .val (.int .i64)], [.val (.int .i64) (Mk.top (.int .i64))]⟩) (⟨[], []⟩)))) (cond (n.ble 179) (cond (n.beq 179) (⟨[.val (.sl (.int .i64)), .val (.int .i64)], [.val (.int .i64) (Mk.top (.int .i64))]⟩) (⟨[], []⟩)) (cond (n.ble 180) (cond (n.beq 180) (⟨[.val (.sl (.pair (.str) (.pair (.sl (.int .i64)) (.pair (.bool) (.unit))))), .val (.int .i64)], [.val (.int .i64) (Mk.top (.int .i64))]⟩) (⟨[], []⟩)) (cond (n.beq 181) (⟨[.val (.sl (.pair (.str) (.pair (.str) (.unit))))], [.val (.sl (.pair (.str) (.pair (.str) (.unit)))) (Mk.top (.sl (.pair (.str) (.pair (.str) (.unit)))))]⟩) (⟨[], []⟩)))))) (cond (n.ble 187) (cond (n.ble 184) (cond (n.ble 182) (cond (n.beq 182) (⟨[.val (.sl (.pair (.str) (.pair (.str) (.unit)))), .fn], [.val (.int .i64) (Mk.top (.int .i64))]⟩) (⟨[], []⟩)) (cond (n.ble 183) (cond (n.beq 183) (⟨[.val (.pair (.str) (.pair (.str) (.unit))), .rptr (.pair (.str) (.pair (.str) (.unit)))], [.val (.bool) (Mk.top (.bool))]⟩) (⟨[], []⟩)) (cond (n.beq 184) (⟨[.own (.sl (.pair (.str) (.pair (.str) (.unit)))) (Mk.top (.sl (.pair (.str) (.pair (.str) (.unit))))), .val (.int .i64), .own (.sl (.pair (.str) (.pair (.str) (.unit)))) (Mk.top (.sl (.pair (.str) (.pair (.str) (.unit)))))], [.val (.sl (.pair (.str) (.pair (.str) (.unit)))) (Mk.top (.sl (.pair (.str) (.pair (.str) (.unit)))))]⟩) (⟨[], []⟩)))) (cond (n.ble 185) (cond (n.beq 185) (⟨[.val (.pair (.str) (.pair (.str) (.unit))), .val (.pair (.str) (.pair (.str) (.unit)))], [.val (.bool) (Mk.top (.bool))]⟩) (⟨[], []⟩)) (cond (n.ble 186) (cond (n.beq 186) (⟨[.val (.sl (.int .i64)), .val (.int .i64)], [.val (.int .i64) (Mk.top (.int .i64))]⟩) (⟨[], []⟩)) (cond (n.beq 187) (⟨[.val (.str), .val (.str)], [.val (.int .i64) (Mk.top (.int .i64))]⟩) (⟨[], []⟩))))) (cond (n.ble 191) (cond (n.ble 188) (cond (n.beq 188) (⟨[.val (.sl (.pair (.int .i64) (.pair (.int .i64) (.pair (.str) (.unit))))), .val (.pair (.int .i64) (.pair (.int .i64) (.pair (.str) (.unit))))], [.val (.int .i64) (Mk.top (.int .i64))]⟩) (⟨[], []⟩)) (cond (n.ble 189) (cond (n.beq 189) (⟨[.val (.sl (.sl (.pair (.int .i64) (.pair (.int .i64) (.pair (.str) (.unit)))))), .val (.int .i64)], []⟩) (⟨[], []⟩)) (cond (n.beq 191) (⟨[.val (.sl (.pair (.str) (.pair (.str) (.unit)))), .val (.int .i64)], []⟩) (⟨[], []⟩)))) (cond (n.ble 193) (cond (n.beq 193) (⟨[.val (.sl (.sl (.pair (.int .i64) (.pair (.int .i64) (.pair (.str) (.unit))))))], []⟩) (⟨[], []⟩)) (cond (n.ble 194) (cond (n.beq 194) (⟨[.val (.sl (.pair (.str) (.pair (.str) (.unit)))), .val (.int .i64)], []⟩) (⟨[], []⟩)) (cond (n.beq 196) (⟨[.val (.sl (.pair (.str) (.pair (.str) (.unit))))], []⟩) (⟨[], []⟩)))))))))
noncomputable def hintTab (n : Nat) : Hints := cond (n.ble 97) (cond (n.ble 49) (cond (n.ble 25) (cond (n.ble 13) (cond (n.ble 7) (cond (n.ble 4) (cond (n.ble 3) (cond (n.beq 3) ({ keep := [], share := [], outs := [] }) ({})) (cond (n.beq 4) ({ keep := [(14, [3, 12, 13], [2, 3, 12], [])], share := [], outs := [] }) ({}))) (cond (n.ble 5) (cond (n.beq 5) ({ keep := [], share := [], outs := [] }) ({})) (cond (n.ble 6) (cond (n.beq 6) ({ keep := [], share := [], outs := [] }) ({})) (cond (n.beq 7) ({ keep := [], share := [], outs := [] }) ({}))))) (cond (n.ble 10) (cond (n.ble 8) (cond (n.beq 8) ({ keep := [], share := [], outs := [] }) ({})) (cond (n.ble 9) (cond (n.beq 9) ({ keep := [(12, [3, 4, 5, 9, 10], [2, 3, 4, 5, 9], [])], share := [], outs := [] }) ({})) (cond (n.beq 10) ({ keep := [(8, [5, 7], [2], []), (12, [5, 7, 8, 9], [2, 5, 7], []), (15, [5, 7, 8, 9, 10], [2, 5, 7, 8, 9], [])], share := [(4, 7)], outs := [] }) ({})))) (cond (n.ble 11) (cond (n.beq 11) ({ keep := [], share := [], outs := [] }) ({})) (cond (n.ble 12) (cond (n.beq 12) ({ keep := [], share := [], outs := [] }) ({})) (cond (n.beq 13) ({ keep := [], share := [], outs := [] }) ({})))))) (cond (n.ble 19) (cond (n.ble 16) (cond (n.ble 14) (cond (n.beq 14) ({ keep := [(8, [3, 4, 5, 6], [2, 3, 4, 5], [])], share := [], outs := [] }) ({})) (cond (n.ble 15) (cond (n.beq 15) ({ keep := [], share := [], outs := [] }) ({})) (cond (n.beq 16) ({ keep := [(2, [1, 3], [1, 2], []), (9, [1, 4], [2], [])], share := [], outs := [] }) ({})))) (cond (n.ble 17) (cond (n.beq 17) ({ keep := [], share := [], outs := [] }) ({})) (cond (n.ble 18) (cond (n.beq 18) ({ keep := [(2, [1, 8, 9, 10], [1, 2], []), (8, [1, 35, 36, 37], [1, 2], [])], share := [], outs := [] }) ({})) (cond (n.beq 19) ({ keep := [], share := [], outs := [] }) ({}))))) (cond (n.ble 22) (cond (n.ble 20) (cond (n.beq 20) ({ keep := [], share := [], outs := [] }) ({})) (cond (n.ble 21) (cond (n.beq 21) ({ keep := [], share := [], outs := [] }) ({})) (cond (n.beq 22) ({ keep := [], share := [], outs := [] }) ({})))) (cond (n.ble 23) (cond (n.beq 23) ({ keep := [], share := [(1, 2)], outs := [] }) ({})) (cond (n.ble 24) (cond (n.beq 24) ({ keep := [], share := [(3, 2)], outs := [] }) ({})) (cond (n.beq 25) ({ keep := [], share := [], outs := [] }) ({}))))))) (cond (n.ble 37) (cond (n.ble 31) (cond (n.ble 28) (cond (n.ble 26) (cond (n.beq 26) ({ keep := [(4, [2, 19, 20, 21], [4], [])], share := [], outs := [] }) ({})) (cond (n.ble 27) (cond (n.beq 27) ({ keep := [(4, [1, 2, 5], [4], [])], share := [], outs := [] }) ({})) (cond (n.beq 28) ({ keep := [(2, [0, 5, 6], [0, 2], [])], share := [], outs := [] }) ({})))) (cond (n.ble 29) (cond (n.beq 29) ({ keep := [(2, [0, 3], [0, 2], [])], share := [], outs := [] }) ({})) (cond (n.ble 30) (cond (n.beq 30) ({ keep := [], share := [], outs := [] }) ({})) (cond (n.beq 31) ({ keep := [(2, [1, 2, 5], [4], [])], share := [], outs := [] }) ({}))))) (cond (n.ble 34) (cond (n.ble 32) (cond (n.beq 32) ({ keep := [(4, [0, 1, 5], [4], [])], share := [], outs := [] }) ({})) (cond (n.ble 33) (cond (n.beq 33) ({ keep := [], share := [], outs := [] }) ({})) (cond (n.beq 34) ({ keep := [], share := [], outs := [] }) ({})))) (cond (n.ble 35) (cond (n.beq 35) ({ keep := [], share := [], outs := [] }) ({})) (cond (n.ble 36) (cond (n.beq 36) ({ keep := [(5, [0, 1, 5], [1, 4], [])], share := [], outs := [] }) ({})) (cond (n.beq 37) ({ keep := [(3, [0, 3, 4], [3], [])], share := [], outs := [] }) ({})))))) (cond (n.ble 43) (cond (n.ble 40) (cond (n.ble 38) (cond (n.beq 38) ({ keep := [(4, [0, 1, 5], [4], [])], share := [], outs := [] }) ({})) (cond (n.ble 39) (cond (n.beq 39) ({ keep := [], share := [], outs := [(0, 2)] }) ({})) (cond (n.beq 40) ({ keep := [(2, [0, 1, 5], [0, 1], [0])], share := [], outs := [] }) ({})))) (cond (n.ble 41) (cond (n.beq 41) ({ keep := [(2, [0, 1, 5], [1, 4], [])], share := [], outs := [] }) ({})) (cond (n.ble 42) (cond (n.beq 42) ({ keep := [], share := [], outs := [] }) ({})) (cond (n.beq 43) ({ keep := [], share := [], outs := [] }) ({}))))) (cond (n.ble 46) (cond (n.ble 44) (cond (n.beq 44) ({ keep := [], share := [], outs := [] }) ({})) (cond (n.ble 45) (cond (n.beq 45) ({ keep := [], share := [], outs := [] }) ({})) (cond (n.beq 46) ({ keep := [], share := [], outs := [] }) ({})))) (cond (n.ble 47) (cond (n.beq 47) ({ keep := [], share := [], outs := [] }) ({})) (cond (n.ble 48) (cond (n.beq 48) ({ keep := [(2, [1, 3], [1, 2], []), (7, [1, 3, 4], [1, 2, 3], [])], share := [], outs := [] }) ({})) (cond (n.beq 49) ({ keep := [(2, [1, 6, 7, 8], [1, 2], [])], share := [], outs := [] }) ({})))))))) (cond (n.ble 73) (cond (n.ble 61) (cond (n.ble 55) (cond (n.ble 52) (cond (n.ble 50) (cond (n.beq 50) ({ keep := [], share := [(2, 3)], outs := [] }) ({})) (cond (n.ble 51) (cond (n.beq 51) ({ keep := [(8, [1, 2, 4, 6, 32, 33, 34], [1, 2, 4, 5, 6], [])], share := [], outs := [] }) ({})) (cond (n.beq 52) ({ keep := [], share := [], outs := [] }) ({})))) (cond (n.ble 53) (cond (n.beq 53) ({ keep := [(4, [2, 3, 5], [2, 3, 4], []), (9, [2, 3, 6], [4], [])], share := [], outs := [] }) ({})) (cond (n.ble 54) (cond (n.beq 54) ({ keep := [], share := [], outs := [] }) ({})) (cond (n.beq 55) ({ keep := [], share := [], outs := [] }) ({}))))) (cond (n.ble 58) (cond (n.ble 56) (cond (n.beq 56) ({ keep := [(3, [0, 5, 9, 10, 11], [5], [])], share := [], outs := [] }) ({})) (cond (n.ble 57) (cond (n.beq 57) ({ keep := [(2, [0, 3], [2], [])], share := [], outs := [] }) ({})) (cond (n.beq 58) ({ keep := [], share := [], outs := [] }) ({})))) (cond (n.ble 59) (cond (n.beq 59) ({ keep := [], share := [], outs := [(0, 2)] }) ({})) (cond (n.ble 60) (cond (n.beq 60) ({ keep := [], share := [], outs := [] }) ({})) (cond (n.beq 61) ({ keep := [], share := [], outs := [] }) ({})))))) (cond (n.ble 67) (cond (n.ble 64) (cond (n.ble 62) (cond (n.beq 62) ({ keep := [], share := [], outs := [] }) ({})) (cond (n.ble 63) (cond (n.beq 63) ({ keep := [(11, [1, 2, 4, 6, 7], [1, 2, 4, 6, 7], [])], share := [], outs := [] }) ({})) (cond (n.beq 64) ({ keep := [], share := [], outs := [] }) ({})))) (cond (n.ble 65) (cond (n.beq 65) ({ keep := [], share := [], outs := [] }) ({})) (cond (n.ble 66) (cond (n.beq 66) ({ keep := [(5, [1, 2, 5, 24, 25, 26], [5], [])], share := [], outs := [] }) ({})) (cond (n.beq 67) ({ keep := [(4, [0, 1, 5], [4], [])], share := [], outs := [] }) ({}))))) (cond (n.ble 70) (cond (n.ble 68) (cond (n.beq 68) ({ keep := [(3, [1, 2, 5, 6], [5], [])], share := [], outs := [] }) ({})) (cond (n.ble 69) (cond (n.beq 69) ({ keep := [], share := [], outs := [] }) ({})) (cond (n.beq 70) ({ keep := [(5, [0, 1, 5], [1, 4], [])], share := [], outs := [] }) ({})))) (cond (n.ble 71) (cond (n.beq 71) ({ keep := [], share := [], outs := [] }) ({})) (cond (n.ble 72) (cond (n.beq 72) ({ keep := [(5, [0, 1, 5], [1, 4], [])], share := [], outs := [] }) ({})) (cond (n.beq 73) ({ keep := [], share := [], outs := [] }) ({}))))))) (cond (n.ble 85) (cond (n.ble 79) (cond (n.ble 76) (cond (n.ble 74) (cond (n.beq 74) ({ keep := [(2, [1, 2, 3, 7], [1, 2, 6], []), (7, [1, 2, 3, 7, 8], [1, 2, 3, 6, 7], [])], share := [], outs := [] }) ({})) (cond (n.ble 75) (cond (n.beq 75) ({ keep := [(2, [1, 3], [1, 2], []), (8, [1, 3, 4, 5], [1, 2, 3], [])], share := [], outs := [] }) ({})) (cond (n.beq 76) ({ keep := [(3, [0, 3, 4], [3], [])], share := [], outs := [] }) ({})))) (cond (n.ble 77) (cond (n.beq 77) ({ keep := [(3, [0, 3, 4], [3], [])], share := [], outs := [] }) ({})) (cond (n.ble 78) (cond (n.beq 78) ({ keep := [(3, [0, 3, 4], [3], [])], share := [], outs := [] }) ({})) (cond (n.beq 79) ({ keep := [], share := [], outs := [] }) ({}))))) (cond (n.ble 82) (cond (n.ble 80) (cond (n.beq 80) ({ keep := [(2, [1, 2, 3, 9, 10, 11], [1, 2, 6], [])], share := [], outs := [] }) ({})) (cond (n.ble 81) (cond (n.beq 81) ({ keep := [], share := [], outs := [] }) ({})) (cond (n.beq 82) ({ keep := [], share := [], outs := [] }) ({})))) (cond (n.ble 83) (cond (n.beq 83) ({ keep := [], share := [], outs := [] }) ({})) (cond (n.ble 84) (cond (n.beq 84) ({ keep := [], share := [], outs := [] }) ({})) (cond (n.beq 85) ({ keep := [(4, [0, 1, 5], [4], [])], share := [], outs := [] }) ({})))))) (cond (n.ble 91) (cond (n.ble 88) (cond (n.ble 86) (cond (n.beq 86) ({ keep := [(4, [0, 1, 5], [4], [])], share := [], outs := [] }) ({})) (cond (n.ble 87) (cond (n.beq 87) ({ keep := [(4, [0, 1, 5], [4], [])], share := [], outs := [] }) ({})) (cond (n.beq 88) ({ keep := [(3, [0, 3, 4], [0, 3], [])], share := [], outs := [] }) ({})))) (cond (n.ble 89) (cond (n.beq 89) ({ keep := [], share := [(4, 3), (6, 3)], outs := [] }) ({})) (cond (n.ble 90) (cond (n.beq 90) ({ keep := [(3, [0, 3, 5, 6], [0, 5], [0])], share := [], outs := [] }) ({})) (cond (n.beq 91) ({ keep := [], share := [], outs := [] }) ({}))))) (cond (n.ble 94) (cond (n.ble 92) (cond (n.beq 92) ({ keep := [], share := [(6, 1)], outs := [] }) ({})) (cond (n.ble 93) (cond (n.beq 93) ({ keep := [], share := [], outs := [] }) ({})) (cond (n.beq 94) ({ keep := [], share := [], outs := [] }) ({})))) (cond (n.ble 95) (cond (n.beq 95) ({ keep := [], share := [], outs := [] }) ({})) (cond (n.ble 96) (cond (n.beq 96) ({ keep := [(2, [0, 1, 7, 8], [4], [])], share := [], outs := [] }) ({})) (cond (n.beq 97) ({ keep := [], share := [], outs := [] }) ({}))))))))) (cond (n.ble 144) (cond (n.ble 120) (cond (n.ble 108) (cond (n.ble 102) (cond (n.ble 99) (cond (n.ble 98) (cond (n.beq 98) ({ keep := [(3, [0, 1, 5, 6], [5], [])], share := [], outs := [] }) ({})) (cond (n.beq 99) ({ keep := [], share := [], outs := [] }) ({}))) (cond (n.ble 100) (cond (n.beq 100) ({ keep := [], share := [], outs := [] }) ({})) (cond (n.ble 101) (cond (n.beq 101) ({ keep := [], share := [], outs := [] }) ({})) (cond (n.beq 102) ({ keep := [], share := [], outs := [] }) ({}))))) (cond (n.ble 105) (cond (n.ble 103) (cond (n.beq 103) ({ keep := [], share := [], outs := [] }) ({})) (cond (n.ble 104) (cond (n.beq 104) ({ keep := [(2, [0, 1, 5], [0, 1], [0])], share := [], outs := [] }) ({})) (cond (n.beq 105) ({ keep := [(2, [0, 1, 5], [0, 1], [0])], share := [], outs := [] }) ({})))) (cond (n.ble 106) (cond (n.beq 106) ({ keep := [(2, [0, 1, 5], [0, 1], [0])], share := [], outs := [] }) ({})) (cond (n.ble 107) (cond (n.beq 107) ({ keep := [(4, [0, 3], [3], [])], share := [], outs := [] }) ({})) (cond (n.beq 108) ({ keep := [(5, [0, 1, 5], [1, 4], [])], share := [], outs := [] }) ({})))))) (cond (n.ble 114) (cond (n.ble 111) (cond (n.ble 109) (cond (n.beq 109) ({ keep := [(3, [0, 3, 4], [3], [])], share := [], outs := [] }) ({})) (cond (n.ble 110) (cond (n.beq 110) ({ keep := [(3, [0, 3, 4], [3], [])], share := [], outs := [] }) ({})) (cond (n.beq 111) ({ keep := [], share := [], outs := [] }) ({})))) (cond (n.ble 112) (cond (n.beq 112) ({ keep := [(4, [0, 1, 5], [4], [])], share := [], outs := [] }) ({})) (cond (n.ble 113) (cond (n.beq 113) ({ keep := [(2, [0, 1, 5], [0, 1, 4], [])], share := [], outs := [] }) ({})) (cond (n.beq 114) ({ keep := [(2, [1, 2, 3, 7], [6], [])], share := [], outs := [] }) ({}))))) (cond (n.ble 117) (cond (n.ble 115) (cond (n.beq 115) ({ keep := [], share := [], outs := [] }) ({})) (cond (n.ble 116) (cond (n.beq 116) ({ keep := [], share := [], outs := [] }) ({})) (cond (n.beq 117) ({ keep := [], share := [], outs := [] }) ({})))) (cond (n.ble 118) (cond (n.beq 118) ({ keep := [], share := [], outs := [] }) ({})) (cond (n.ble 119) (cond (n.beq 119) ({ keep := [(3, [0, 2, 3, 5], [0, 2, 3], [0])], share := [], outs := [] }) ({})) (cond (n.beq 120) ({ keep := [], share := [], outs := [] }) ({}))))))) (cond (n.ble 132) (cond (n.ble 126) (cond (n.ble 123) (cond (n.ble 121) (cond (n.beq 121) ({ keep := [], share := [], outs := [] }) ({})) (cond (n.ble 122) (cond (n.beq 122) ({ keep := [], share := [], outs := [] }) ({})) (cond (n.beq 123) ({ keep := [], share := [], outs := [] }) ({})))) (cond (n.ble 124) (cond (n.beq 124) ({ keep := [], share := [], outs := [] }) ({})) (cond (n.ble 125) (cond (n.beq 125) ({ keep := [(2, [1, 2, 5], [4], [])], share := [], outs := [] }) ({})) (cond (n.beq 126) ({ keep := [(2, [1, 2, 3, 7], [6], [])], share := [], outs := [] }) ({}))))) (cond (n.ble 129) (cond (n.ble 127) (cond (n.beq 127) ({ keep := [(4, [0, 1, 5], [4], [])], share := [], outs := [] }) ({})) (cond (n.ble 128) (cond (n.beq 128) ({ keep := [(4, [0, 1, 5], [4], [])], share := [], outs := [] }) ({})) (cond (n.beq 129) ({ keep := [], share := [], outs := [] }) ({})))) (cond (n.ble 130) (cond (n.beq 130) ({ keep := [(2, [0, 1, 7, 8], [4], [])], share := [], outs := [] }) ({})) (cond (n.ble 131) (cond (n.beq 131) ({ keep := [], share := [], outs := [] }) ({})) (cond (n.beq 132) ({ keep := [], share := [], outs := [] }) ({})))))) (cond (n.ble 138) (cond (n.ble 135) (cond (n.ble 133) (cond (n.beq 133) ({ keep := [(2, [0, 1, 5], [0, 1], [0])], share := [], outs := [] }) ({})) (cond (n.ble 134) (cond (n.beq 134) ({ keep := [(3, [1, 2, 3, 4], [2, 3], [])], share := [], outs := [] }) ({})) (cond (n.beq 135) ({ keep := [(3, [2, 3, 14, 15, 16], [2, 3], [])], share := [], outs := [] }) ({})))) (cond (n.ble 136) (cond (n.beq 136) ({ keep := [], share := [], outs := [] }) ({})) (cond (n.ble 137) (cond (n.beq 137) ({ keep := [(2, [0, 1, 5], [1, 4], [])], share := [], outs := [] }) ({})) (cond (n.beq 138) ({ keep := [(3, [0, 3, 4], [3], [])], share := [], outs := [] }) ({}))))) (cond (n.ble 141) (cond (n.ble 139) (cond (n.beq 139) ({ keep := [], share := [], outs := [] }) ({})) (cond (n.ble 140) (cond (n.beq 140) ({ keep := [], share := [], outs := [] }) ({})) (cond (n.beq 141) ({ keep := [], share := [], outs := [] }) ({})))) (cond (n.ble 142) (cond (n.beq 142) ({ keep := [(2, [0, 3, 5], [0, 3, 5], [])], share := [], outs := [] }) ({})) (cond (n.ble 143) (cond (n.beq 143) ({ keep := [], share := [], outs := [] }) ({})) (cond (n.beq 144) ({ keep := [], share := [], outs := [] }) ({})))))))) (cond (n.ble 168) (cond (n.ble 156) (cond (n.ble 150) (cond (n.ble 147) (cond (n.ble 145) (cond (n.beq 145) ({ keep := [], share := [], outs := [] }) ({})) (cond (n.ble 146) (cond (n.beq 146) ({ keep := [], share := [], outs := [] }) ({})) (cond (n.beq 147) ({ keep := [], share := [], outs := [] }) ({})))) (cond (n.ble 148) (cond (n.beq 148) ({ keep := [(2, [0, 1, 7, 8], [4], [])], share := [], outs := [] }) ({})) (cond (n.ble 149) (cond (n.beq 149) ({ keep := [(2, [0, 1, 7, 8], [4], [])], share := [], outs := [] }) ({})) (cond (n.beq 150) ({ keep := [], share := [], outs := [] }) ({}))))) (cond (n.ble 153) (cond (n.ble 151) (cond (n.beq 151) ({ keep := [], share := [], outs := [] }) ({})) (cond (n.ble 152) (cond (n.beq 152) ({ keep := [(5, [0, 2, 3, 4, 5, 6], [0, 2, 3, 5], [0]), (10, [0, 2, 3, 5, 7], [0, 2, 3], [0])], share := [(17, 3)], outs := [] }) ({})) (cond (n.beq 153) ({ keep := [], share := [], outs := [] }) ({})))) (cond (n.ble 154) (cond (n.beq 154) ({ keep := [], share := [], outs := [] }) ({})) (cond (n.ble 155) (cond (n.beq 155) ({ keep := [], share := [(5, 2), (7, 2)], outs := [] }) ({})) (cond (n.beq 156) ({ keep := [], share := [], outs := [] }) ({})))))) (cond (n.ble 162) (cond (n.ble 159) (cond (n.ble 157) (cond (n.beq 157) ({ keep := [], share := [], outs := [] }) ({})) (cond (n.ble 158) (cond (n.beq 158) ({ keep := [(2, [0, 1, 7, 8], [4], [])], share := [], outs := [] }) ({})) (cond (n.beq 159) ({ keep := [(2, [0, 3], [0, 2], [])], share := [], outs := [] }) ({})))) (cond (n.ble 160) (cond (n.beq 160) ({ keep := [(8, [3, 4, 5], [3], []), (13, [1, 3, 6], [3], [])], share := [], outs := [] }) ({})) (cond (n.ble 161) (cond (n.beq 161) ({ keep := [(5, [3, 13, 14, 15], [3], []), (13, [3, 5, 6, 13, 14, 15], [3, 13, 14, 15], []), (18, [3, 5, 13, 14, 15, 56, 57], [3, 13, 14, 15], [])], share := [], outs := [] }) ({})) (cond (n.beq 162) ({ keep := [], share := [], outs := [] }) ({}))))) (cond (n.ble 165) (cond (n.ble 163) (cond (n.beq 163) ({ keep := [], share := [], outs := [] }) ({})) (cond (n.ble 164) (cond (n.beq 164) ({ keep := [(2, [0, 1, 5], [0, 1, 4], [])], share := [], outs := [] }) ({})) (cond (n.beq 165) ({ keep := [(2, [0, 3], [2], [])], share := [], outs := [] }) ({})))) (cond (n.ble 166) (cond (n.beq 166) ({ keep := [(2, [0, 1, 2, 11, 12, 13], [0, 1, 6], [])], share := [], outs := [] }) ({})) (cond (n.ble 167) (cond (n.beq 167) ({ keep := [], share := [], outs := [] }) ({})) (cond (n.beq 168) ({ keep := [], share := [], outs := [] }) ({}))))))) (cond (n.ble 181) (cond (n.ble 175) (cond (n.ble 171) (cond (n.ble 169) (cond (n.beq 169) ({ keep := [], share := [], outs := [] }) ({})) (cond (n.ble 170) (cond (n.beq 170) ({ keep := [(4, [0, 1, 12, 13], [4], [])], share := [], outs := [] }) ({})) (cond (n.beq 171) ({ keep := [], share := [], outs := [] }) ({})))) (cond (n.ble 172) (cond (n.beq 172) ({ keep := [(3, [3, 7, 8, 9], [3], [])], share := [], outs := [] }) ({})) (cond (n.ble 173) (cond (n.beq 173) ({ keep := [], share := [], outs := [] }) ({})) (cond (n.beq 175) ({ keep := [], share := [], outs := [] }) ({}))))) (cond (n.ble 178) (cond (n.ble 176) (cond (n.beq 176) ({ keep := [], share := [], outs := [] }) ({})) (cond (n.ble 177) (cond (n.beq 177) ({ keep := [], share := [], outs := [] }) ({})) (cond (n.beq 178) ({ keep := [(2, [0, 1, 5], [1, 4], [])], share := [], outs := [] }) ({})))) (cond (n.ble 179) (cond (n.beq 179) ({ keep := [(2, [0, 1, 5], [1, 4], [])], share := [], outs := [] }) ({})) (cond (n.ble 180) (cond (n.beq 180) ({ keep := [(2, [0, 1, 5], [1, 4], [])], share := [], outs := [] }) ({})) (cond (n.beq 181) ({ keep := [], share := [], outs := [] }) ({})))))) (cond (n.ble 187) (cond (n.ble 184) (cond (n.ble 182) (cond (n.beq 182) ({ keep := [(2, [0, 1, 7, 8], [4], [])], share := [], outs := [] }) ({})) (cond (n.ble 183) (cond (n.beq 183) ({ keep := [], share := [], outs := [] }) ({})) (cond (n.beq 184) ({ keep := [], share := [], outs := [] }) ({})))) (cond (n.ble 185) (cond (n.beq 185) ({ keep := [], share := [], outs := [] }) ({})) (cond (n.ble 186) (cond (n.beq 186) ({ keep := [(2, [0, 1, 7, 8], [4], [])], share := [], outs := [] }) ({})) (cond (n.beq 187) ({ keep := [], share := [], outs := [] }) ({}))))) (cond (n.ble 191) (cond (n.ble 188) (cond (n.beq 188) ({ keep := [(2, [0, 3, 7, 8], [4], [])], share := [], outs := [] }) ({})) (cond (n.ble 189) (cond (n.beq 189) ({ keep := [], share := [], outs := [] }) ({})) (cond (n.beq 191) ({ keep := [], share := [], outs := [] }) ({})))) (cond (n.ble 193) (cond (n.beq 193) ({ keep := [(1, [0, 2, 3], [], [])], share := [], outs := [] }) ({})) (cond (n.ble 194) (cond (n.beq 194) ({ keep := [], share := [], outs := [] }) ({})) (cond (n.beq 196) ({ keep := [(1, [0, 2, 3], [], [])], share := [], outs := [] }) ({})))))))))
noncomputable def funcTab (n : Nat) : Option Func := cond (n.ble 97) (cond (n.ble 49) (cond (n.ble 25) (cond (n.ble 13) (cond (n.ble 7) (cond (n.ble 4) (cond (n.ble 3) (cond (n.beq 3) (some Go.Proofs.Try.f3) (none)) (cond (n.beq 4) (some Go.Proofs.Try.f4) (none))) (cond (n.ble 5) (cond (n.beq 5) (some Go.Proofs.Try.f5) (none)) (cond (n.ble 6) (cond (n.beq 6) (some Go.Proofs.Try.f6) (none)) (cond (n.beq 7) (some Go.Proofs.Try.f7) (none))))) (cond (n.ble 10) (cond (n.ble 8) (cond (n.beq 8) (some Go.Proofs.Try.f8) (none)) (cond (n.ble 9) (cond (n.beq 9) (some Go.Proofs.Try.f9) (none)) (cond (n.beq 10) (some Go.Proofs.Try.f10) (none)))) (cond (n.ble 11) (cond (n.beq 11) (some Go.Proofs.Try.f11) (none)) (cond (n.ble 12) (cond (n.beq 12) (some Go.Proofs.Try.f12) (none)) (cond (n.beq 13) (some Go.Proofs.Try.f13) (none)))))) (cond (n.ble 19) (cond (n.ble 16) (cond (n.ble 14) (cond (n.beq 14) (some Go.Proofs.Try.f14) (none)) (cond (n.ble 15) (cond (n.beq 15) (some Go.Proofs.Try.f15) (none)) (cond (n.beq 16) (some Go.Proofs.Try.f16) (none)))) (cond (n.ble 17) (cond (n.beq 17) (some Go.Proofs.Try.f17) (none)) (cond (n.ble 18) (cond (n.beq 18) (some Go.Proofs.Try.f18) (none)) (cond (n.beq 19) (some Go.Proofs.Try.f19) (none))))) (cond (n.ble 22) (cond (n.ble 20) (cond (n.beq 20) (some Go.Proofs.Try.f20) (none)) (cond (n.ble 21) (cond (n.beq 21) (some Go.Proofs.Try.f21) (none)) (cond (n.beq 22) (some Go.Proofs.Try.f22) (none)))) (cond (n.ble 23) (cond (n.beq 23) (some Go.Proofs.Try.f23) (none)) (cond (n.ble 24) (cond (n.beq 24) (some Go.Proofs.Try.f24) (none)) (cond (n.beq 25) (some Go.Proofs.Try.f25) (none))))))) (cond (n.ble 37) (cond (n.ble 31) (cond (n.ble 28) (cond (n.ble 26) (cond (n.beq 26) (some Go.Proofs.Try.f26) (none)) (cond (n.ble 27) (cond (n.beq 27) (some Go.Proofs.Try.f27) (none)) (cond (n.beq 28) (some Go.Proofs.Try.f28) (none)))) (cond (n.ble 29) (cond (n.beq 29) (some Go.Proofs.Try.f29) (none)) (cond (n.ble 30) (cond (n.beq 30) (some Go.Proofs.Try.f30) (none)) (cond (n.beq 31) (some Go.Proofs.Try.f31) (none))))) (cond (n.ble 34) (cond (n.ble 32) (cond (n.beq 32) (some Go.Proofs.Try.f32) (none)) (cond (n.ble 33) (cond (n.beq 33) (some Go.Proofs.Try.f33) (none)) (cond (n.beq 34) (some Go.Proofs.Try.f34) (none)))) (cond (n.ble 35) (cond (n.beq 35) (some Go.Proofs.Try.f35) (none)) (cond (n.ble 36) (cond (n.beq 36) (some Go.Proofs.Try.f36) (none)) (cond (n.beq 37) (some Go.Proofs.Try.f37) (none)))))) (cond (n.ble 43) (cond (n.ble 40) (cond (n.ble 38) (cond (n.beq 38) (some Go.Proofs.Try.f38) (none)) (cond (n.ble 39) (cond (n.beq 39) (some Go.Proofs.Try.f39) (none)) (cond (n.beq 40) (some Go.Proofs.Try.f40) (none)))) (cond (n.ble 41) (cond (n.beq 41) (some Go.Proofs.Try.f41) (none)) (cond (n.ble 42) (cond (n.beq 42) (some Go.Proofs.Try.f42) (none)) (cond (n.beq 43) (some Go.Proofs.Try.f43) (none))))) (cond (n.ble 46) (cond (n.ble 44) (cond (n.beq 44) (some Go.Proofs.Try.f44) (none)) (cond (n.ble 45) (cond (n.beq 45) (some Go.Proofs.Try.f45) (none)) (cond (n.beq 46) (some Go.Proofs.Try.f46) (none)))) (cond (n.ble 47) (cond (n.beq 47) (some Go.Proofs.Try.f47) (none)) (cond (n.ble 48) (cond (n.beq 48) (some Go.Proofs.Try.f48) (none)) (cond (n.beq 49) (some Go.Proofs.Try.f49) (none)))))))) (cond (n.ble 73) (cond (n.ble 61) (cond (n.ble 55) (cond (n.ble 52) (cond (n.ble 50) (cond (n.beq 50) (some Go.Proofs.Try.f50) (none)) (cond (n.ble 51) (cond (n.beq 51) (some Go.Proofs.Try.f51) (none)) (cond (n.beq 52) (some Go.Proofs.Try.f52) (none)))) (cond (n.ble 53) (cond (n.beq 53) (some Go.Proofs.Try.f53) (none)) (cond (n.ble 54) (cond (n.beq 54) (some Go.Proofs.Try.f54) (none)) (cond (n.beq 55) (some Go.Proofs.Try.f55) (none))))) (cond (n.ble 58) (cond (n.ble 56) (cond (n.beq 56) (some Go.Proofs.Try.f56) (none)) (cond (n.ble 57) (cond (n.beq 57) (some Go.Proofs.Try.f57) (none)) (cond (n.beq 58) (some Go.Proofs.Try.f58) (none)))) (cond (n.ble 59) (cond (n.beq 59) (some Go.Proofs.Try.f59) (none)) (cond (n.ble 60) (cond (n.beq 60) (some Go.Proofs.Try.f60) (none)) (cond (n.beq 61) (some Go.Proofs.Try.f61) (none)))))) (cond (n.ble 67) (cond (n.ble 64) (cond (n.ble 62) (cond (n.beq 62) (some Go.Proofs.Try.f62) (none)) (cond (n.ble 63) (cond (n.beq 63) (some Go.Proofs.Try.f63) (none)) (cond (n.beq 64) (some Go.Proofs.Try.f64) (none)))) (cond (n.ble 65) (cond (n.beq 65) (some Go.Proofs.Try.f65) (none)) (cond (n.ble 66) (cond (n.beq 66) (some Go.Proofs.Try.f66) (none)) (cond (n.beq 67) (some Go.Proofs.Try.f67) (none))))) (cond (n.ble 70) (cond (n.ble 68) (cond (n.beq 68) (some Go.Proofs.Try.f68) (none)) (cond (n.ble 69) (cond (n.beq 69) (some Go.Proofs.Try.f69) (none)) (cond (n.beq 70) (some Go.Proofs.Try.f70) (none)))) (cond (n.ble 71) (cond (n.beq 71) (some Go.Proofs.Try.f71) (none)) (cond (n.ble 72) (cond (n.beq 72) (some Go.Proofs.Try.f72) (none)) (cond (n.beq 73) (some Go.Proofs.Try.f73) (none))))))) (cond (n.ble 85) (cond (n.ble 79) (cond (n.ble 76) (cond (n.ble 74) (cond (n.beq 74) (some Go.Proofs.Try.f74) (none)) (cond (n.ble 75) (cond (n.beq 75) (some Go.Proofs.Try.f75) (none)) (cond (n.beq 76) (some Go.Proofs.Try.f76) (none)))) (cond (n.ble 77) (cond (n.beq 77) (some Go.Proofs.Try.f77) (none)) (cond (n.ble 78) (cond (n.beq 78) (some Go.Proofs.Try.f78) (none)) (cond (n.beq 79) (some Go.Proofs.Try.f79) (none))))) (cond (n.ble 82) (cond (n.ble 80) (cond (n.beq 80) (some Go.Proofs.Try.f80) (none)) (cond (n.ble 81) (cond (n.beq 81) (some Go.Proofs.Try.f81) (none)) (cond (n.beq 82) (some Go.Proofs.Try.f82) (none)))) (cond (n.ble 83) (cond (n.beq 83) (some Go.Proofs.Try.f83) (none)) (cond (n.ble 84) (cond (n.beq 84) (some Go.Proofs.Try.f84) (none)) (cond (n.beq 85) (some Go.Proofs.Try.f85) (none)))))) (cond (n.ble 91) (cond (n.ble 88) (cond (n.ble 86) (cond (n.beq 86) (some Go.Proofs.Try.f86) (none)) (cond (n.ble 87) (cond (n.beq 87) (some Go.Proofs.Try.f87) (none)) (cond (n.beq 88) (some Go.Proofs.Try.f88) (none)))) (cond (n.ble 89) (cond (n.beq 89) (some Go.Proofs.Try.f89) (none)) (cond (n.ble 90) (cond (n.beq 90) (some Go.Proofs.Try.f90) (none)) (cond (n.beq 91) (some Go.Proofs.Try.f91) (none))))) (cond (n.ble 94) (cond (n.ble 92) (cond (n.beq 92) (some Go.Proofs.Try.f92) (none)) (cond (n.ble 93) (cond (n.beq 93) (some Go.Proofs.Try.f93) (none)) (cond (n.beq 94) (some Go.Proofs.Try.f94) (none)))) (cond (n.ble 95) (cond (n.beq 95) (some Go.Proofs.Try.f95) (none)) (cond (n.ble 96) (cond (n.beq 96) (some Go.Proofs.Try.f96) (none)) (cond (n.beq 97) (some Go.Proofs.Try.f97) (none))))))))) (cond (n.ble 144) (cond (n.ble 120) (cond (n.ble 108) (cond (n.ble 102) (cond (n.ble 99) (cond (n.ble 98) (cond (n.beq 98) (some Go.Proofs.Try.f98) (none)) (cond (n.beq 99) (some Go.Proofs.Try.f99) (none))) (cond (n.ble 100) (cond (n.beq 100) (some Go.Proofs.Try.f100) (none)) (cond (n.ble 101) (cond (n.beq 101) (some Go.Proofs.Try.f101) (none)) (cond (n.beq 102) (some Go.Proofs.Try.f102) (none))))) (cond (n.ble 105) (cond (n.ble 103) (cond (n.beq 103) (some Go.Proofs.Try.f103) (none)) (cond (n.ble 104) (cond (n.beq 104) (some Go.Proofs.Try.f104) (none)) (cond (n.beq 105) (some Go.Proofs.Try.f105) (none)))) (cond (n.ble 106) (cond (n.beq 106) (some Go.Proofs.Try.f106) (none)) (cond (n.ble 107) (cond (n.beq 107) (some Go.Proofs.Try.f107) (none)) (cond (n.beq 108) (some Go.Proofs.Try.f108) (none)))))) (cond (n.ble 114) (cond (n.ble 111) (cond (n.ble 109) (cond (n.beq 109) (some Go.Proofs.Try.f109) (none)) (cond (n.ble 110) (cond (n.beq 110) (some Go.Proofs.Try.f110) (none)) (cond (n.beq 111) (some Go.Proofs.Try.f111) (none)))) (cond (n.ble 112) (cond (n.beq 112) (some Go.Proofs.Try.f112) (none)) (cond (n.ble 113) (cond (n.beq 113) (some Go.Proofs.Try.f113) (none)) (cond (n.beq 114) (some Go.Proofs.Try.f114) (none))))) (cond (n.ble 117) (cond (n.ble 115) (cond (n.beq 115) (some Go.Proofs.Try.f115) (none)) (cond (n.ble 116) (cond (n.beq 116) (some Go.Proofs.Try.f116) (none)) (cond (n.beq 117) (some Go.Proofs.Try.f117) (none)))) (cond (n.ble 118) (cond (n.beq 118) (some Go.Proofs.Try.f118) (none)) (cond (n.ble 119) (cond (n.beq 119) (some Go.Proofs.Try.f119) (none)) (cond (n.beq 120) (some Go.Proofs.Try.f120) (none))))))) (cond (n.ble 132) (cond (n.ble 126) (cond (n.ble 123) (cond (n.ble 121) (cond (n.beq 121) (some Go.Proofs.Try.f121) (none)) (cond (n.ble 122) (cond (n.beq 122) (some Go.Proofs.Try.f122) (none)) (cond (n.beq 123) (some Go.Proofs.Try.f123) (none)))) (cond (n.ble 124) (cond (n.beq 124) (some Go.Proofs.Try.f124) (none)) (cond (n.ble 125) (cond (n.beq 125) (some Go.Proofs.Try.f125) (none)) (cond (n.beq 126) (some Go.Proofs.Try.f126) (none))))) (cond (n.ble 129) (cond (n.ble 127) (cond (n.beq 127) (some Go.Proofs.Try.f127) (none)) (cond (n.ble 128) (cond (n.beq 128) (some Go.Proofs.Try.f128) (none)) (cond (n.beq 129) (some Go.Proofs.Try.f129) (none)))) (cond (n.ble 130) (cond (n.beq 130) (some Go.Proofs.Try.f130) (none)) (cond (n.ble 131) (cond (n.beq 131) (some Go.Proofs.Try.f131) (none)) (cond (n.beq 132) (some Go.Proofs.Try.f132) (none)))))) (cond (n.ble 138) (cond (n.ble 135) (cond (n.ble 133) (cond (n.beq 133) (some Go.Proofs.Try.f133) (none)) (cond (n.ble 134) (cond (n.beq 134) (some Go.Proofs.Try.f134) (none)) (cond (n.beq 135) (some Go.Proofs.Try.f135) (none)))) (cond (n.ble 136) (cond (n.beq 136) (some Go.Proofs.Try.f136) (none)) (cond (n.ble 137) (cond (n.beq 137) (some Go.Proofs.Try.f137) (none)) (cond (n.beq 138) (some Go.Proofs.Try.f138) (none))))) (cond (n.ble 141) (cond (n.ble 139) (cond (n.beq 139) (some Go.Proofs.Try.f139) (none)) (cond (n.ble 140) (cond (n.beq 140) (some Go.Proofs.Try.f140) (none)) (cond (n.beq 141) (some Go.Proofs.Try.f141) (none)))) (cond (n.ble 142) (cond (n.beq 142) (some Go.Proofs.Try.f142) (none)) (cond (n.ble 143) (cond (n.beq 143) (some Go.Proofs.Try.f143) (none)) (cond (n.beq 144) (some Go.Proofs.Try.f144) (none)))))))) (cond (n.ble 168) (cond (n.ble 156) (cond (n.ble 150) (cond (n.ble 147) (cond (n.ble 145) (cond (n.beq 145) (some Go.Proofs.Try.f145) (none)) (cond (n.ble 146) (cond (n.beq 146) (some Go.Proofs.Try.f146) (none)) (cond (n.beq 147) (some Go.Proofs.Try.f147) (none)))) (cond (n.ble 148) (cond (n.beq 148) (some Go.Proofs.Try.f148) (none)) (cond (n.ble 149) (cond (n.beq 149) (some Go.Proofs.Try.f149) (none)) (cond (n.beq 150) (some Go.Proofs.Try.f150) (none))))) (cond (n.ble 153) (cond (n.ble 151) (cond (n.beq 151) (some Go.Proofs.Try.f151) (none)) (cond (n.ble 152) (cond (n.beq 152) (some Go.Proofs.Try.f152) (none)) (cond (n.beq 153) (some Go.Proofs.Try.f153) (none)))) (cond (n.ble 154) (cond (n.beq 154) (some Go.Proofs.Try.f154) (none)) (cond (n.ble 155) (cond (n.beq 155) (some Go.Proofs.Try.f155) (none)) (cond (n.beq 156) (some Go.Proofs.Try.f156) (none)))))) (cond (n.ble 162) (cond (n.ble 159) (cond (n.ble 157) (cond (n.beq 157) (some Go.Proofs.Try.f157) (none)) (cond (n.ble 158) (cond (n.beq 158) (some Go.Proofs.Try.f158) (none)) (cond (n.beq 159) (some Go.Proofs.Try.f159) (none)))) (cond (n.ble 160) (cond (n.beq 160) (some Go.Proofs.Try.f160) (none)) (cond (n.ble 161) (cond (n.beq 161) (some Go.Proofs.Try.f161) (none)) (cond (n.beq 162) (some Go.Proofs.Try.f162) (none))))) (cond (n.ble 165) (cond (n.ble 163) (cond (n.beq 163) (some Go.Proofs.Try.f163) (none)) (cond (n.ble 164) (cond (n.beq 164) (some Go.Proofs.Try.f164) (none)) (cond (n.beq 165) (some Go.Proofs.Try.f165) (none)))) (cond (n.ble 166) (cond (n.beq 166) (some Go.Proofs.Try.f166) (none)) (cond (n.ble 167) (cond (n.beq 167) (some Go.Proofs.Try.f167) (none)) (cond (n.beq 168) (some Go.Proofs.Try.f168) (none))))))) (cond (n.ble 181) (cond (n.ble 175) (cond (n.ble 171) (cond (n.ble 169) (cond (n.beq 169) (some Go.Proofs.Try.f169) (none)) (cond (n.ble 170) (cond (n.beq 170) (some Go.Proofs.Try.f170) (none)) (cond (n.beq 171) (some Go.Proofs.Try.f171) (none)))) (cond (n.ble 172) (cond (n.beq 172) (some Go.Proofs.Try.f172) (none)) (cond (n.ble 173) (cond (n.beq 173) (some Go.Proofs.Try.f173) (none)) (cond (n.beq 175) (some Go.Proofs.Try.f175) (none))))) (cond (n.ble 178) (cond (n.ble 176) (cond (n.beq 176) (some Go.Proofs.Try.f176) (none)) (cond (n.ble 177) (cond (n.beq 177) (some Go.Proofs.Try.f177) (none)) (cond (n.beq 178) (some Go.Proofs.Try.f178) (none)))) (cond (n.ble 179) (cond (n.beq 179) (some Go.Proofs.Try.f179) (none)) (cond (n.ble 180) (cond (n.beq 180) (some Go.Proofs.Try.f180) (none)) (cond (n.beq 181) (some Go.Proofs.Try.f181) (none)))))) (cond (n.ble 187) (cond (n.ble 184) (cond (n.ble 182) (cond (n.beq 182) (some Go.Proofs.Try.f182) (none)) (cond (n.ble 183) (cond (n.beq 183) (some Go.Proofs.Try.f183) (none)) (cond (n.beq 184) (some Go.Proofs.Try.f184) (none)))) (cond (n.ble 185) (cond (n.beq 185) (some Go.Proofs.Try.f185) (none)) (cond (n.ble 186) (cond (n.beq 186) (some Go.Proofs.Try.f186) (none)) (cond (n.beq 187) (some Go.Proofs.Try.f187) (none))))) (cond (n.ble 191) (cond (n.ble 188) (cond (n.beq 188) (some Go.Proofs.Try.f188) (none)) (cond (n.ble 189) (cond (n.beq 189) (some Go.Proofs.Try.f189) (none)) (cond (n.beq 191) (some Go.Proofs.Try.f191) (none)))) (cond (n.ble 193) (cond (n.beq 193) (some Go.Proofs.Try.f193) (none)) (cond (n.ble 194) (cond (n.beq 194) (some Go.Proofs.Try.f194) (none)) (cond (n.beq 196) (some Go.Proofs.Try.f196) (none)))))))))
noncomputable def ctx : Ctx := ⟨tyTab, sigTab, hintTab⟩
end Go.V


/- FnExactHeightOf: for every key, the program's HeightOf answers as the reference's HeightOf. No conditions beyond the statement's own. -/
import Derived.Test.YtjjcilkcffigeaaPFnExactHeightOfx1
import Derived.IntWalk
namespace Go.Proofs.Ytjjcilkcffigeaa.Pure
open Go.RowKit Go.Proofs.Ytjjcilkcffigeaa.PFnExactHeightOf Go.Proofs.YtjjcilkcffigeaaW.PrintWords Go.Proofs.YtjjcilkcffigeaaW.PrintLast

theorem heights_meet (a : ByteArray) (ha : a.size ≤ 1048576) : ∀ (n : Nat) (h i : Int) (k : Nat), 0 ≤ h → h < 16 → 0 ≤ i →
    i + n = a.size → n + 3 ≤ k → ∃ r, spec_HeightOf.l0 k a h i = some r ∧ impl_HeightOf.l0 k a h (a.size : Int) i = some r
  | 0, h, i, k, h0, h1, i0, hi, hk => by
    obtain ⟨k, rfl⟩ : ∃ j, k = j + 2 := ⟨k - 2, by omega⟩
    simp only [spec_HeightOf.l0, impl_HeightOf.l0, spec_HeightOf.j1]
    have e : ¬ i < (a.size : Int) := by omega
    simp only [if_neg e]
    have hh : h = 0 ∨ h = 1 ∨ h = 2 ∨ h = 3 ∨ h = 4 ∨ h = 5 ∨ h = 6 ∨ h = 7 ∨ h = 8 ∨ h = 9 ∨ h = 10 ∨ h = 11 ∨ h = 12 ∨ h = 13 ∨ h = 14 ∨ h = 15 := by omega
    rcases hh with rfl | rfl | rfl | rfl | rfl | rfl | rfl | rfl | rfl | rfl | rfl | rfl | rfl | rfl | rfl | rfl <;> exact ⟨_, rfl, rfl⟩
  | n + 1, h, i, k, h0, h1, i0, hi, hk => by
    obtain ⟨k, rfl⟩ : ∃ j, k = j + 1 := ⟨k - 1, by omega⟩
    simp only [spec_HeightOf.l0, impl_HeightOf.l0]
    have e : i < (a.size : Int) := by omega
    simp only [if_pos e, if_pos i0]
    have hb := bt_range a i
    have w1 : wrap64 (i + 1) = i + 1 := Go.IntWalk.wrap64_in _ (by omega)
    have w2 : wrap64 (31 * h) = 31 * h := Go.IntWalk.wrap64_in _ (by omega)
    have w3 : wrap64 (bt a i) = bt a i := Go.IntWalk.wrap64_in _ (by omega)
    have w4 : wrap64 (31 * h + bt a i) = 31 * h + bt a i := Go.IntWalk.wrap64_in _ (by omega)
    rw [w1, w2, w3, w4]
    have p : 0 ≤ 31 * h + bt a i := by omega
    exact heights_meet a ha n _ _ k (Int.tmod_nonneg _ p) (Int.tmod_lt_of_pos _ (by decide)) (by omega) (by omega) (by omega)

theorem FnExactHeightOf : laws_FnExactHeightOf.Pure := by
  intro a _
  by_cases h : (a.size : Int) > 1048576
  · exact ⟨0, by unfold laws_FnExactHeightOf.f; rw [if_pos h]⟩
  · obtain ⟨r, h1, h2⟩ := heights_meet a (by omega) a.size 7 0 (a.size + 3) (by decide) (by decide) (by decide) (by omega) (by omega)
    refine ⟨a.size + 3, ?_⟩
    unfold laws_FnExactHeightOf.f
    rw [if_neg h]
    have e1 : spec_HeightOf.f (a.size + 3) a = some r := h1
    have e2 : impl_HeightOf.f (a.size + 3) a = some r := h2
    rw [e1, e2]
    show (if r = r then some true else some false) = some true
    rw [if_pos rfl]

end Go.Proofs.Ytjjcilkcffigeaa.Pure

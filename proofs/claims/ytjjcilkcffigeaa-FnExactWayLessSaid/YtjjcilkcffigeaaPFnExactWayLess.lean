/- The row FnExactWayLess holds: for all arguments the law returns true and the arguments read as before. No condition. -/
import Derived.Test.YtjjcilkcffigeaaAPFnExactWayLess0
/- B, part 0: plain laws for the printed functions. No condition. -/
namespace Go.G
set_option linter.unusedVariables false
open Go Go.V

theorem br_t {R : Type} {a b : Option R} : br true a b = a := rfl
theorem br_f {R : Type} {a b : Option R} : br false a b = b := rfl
theorem br_pos {R : Type} {a b : Option R} {p : Prop} [Decidable p] (h : p) : br (decide p) a b = a := by simp [br, h]
theorem br_neg {R : Type} {a b : Option R} {p : Prop} [Decidable p] (h : ¬ p) : br (decide p) a b = b := by simp [br, h]
theorem bindD_some {α R : Type} {a : α} {f : α → Option R} : bindD (some a) f = f a := rfl
theorem br_same {R : Type} {c : Bool} {a : Option R} : br c a a = a := by cases c <;> rfl
theorem br_ite {R : Type} {c : Bool} {a b : Option R} : br c a b = if c = true then a else b := by cases c <;> rfl
theorem wrap_form (x : Int) : IntKind.wrap IntKind.i64 x = if x % 18446744073709551616 ≥ 9223372036854775808 then x % 18446744073709551616 - 18446744073709551616 else x % 18446744073709551616 := by
  by_cases h : x % 18446744073709551616 ≥ 9223372036854775808 <;> simp [IntKind.wrap, IntKind.signed, IntKind.bits, h]
theorem wrap_id {x : Int} (h1 : -9223372036854775808 ≤ x) (h2 : x ≤ 9223372036854775807) : IntKind.wrap IntKind.i64 x = x := by
  rw [wrap_form]
  split <;> omega
theorem wrap_lo (x : Int) : -9223372036854775808 ≤ IntKind.wrap IntKind.i64 x ∧ IntKind.wrap IntKind.i64 x ≤ 9223372036854775807 := by
  rw [wrap_form]
  split <;> omega

/-- rounds enough for every loop -/
def W : Nat := 9223372036854775808
theorem W_def : W = 9223372036854775808 := rfl
theorem maxLen_def : maxLen = 9223372036854775807 := rfl
theorem bound_def : bound = 274877906944 := rfl

theorem ix {α : Type} {l : List α} {i : Nat} (h : i < l.length) : (decide (0 ≤ (i : Int)) && decide ((i : Int) < (l.length : Int))) = true := by
  simp only [Bool.and_eq_true, decide_eq_true_eq]; omega
theorem ixn {α : Type} {l : List α} {i : Int} (h0 : 0 ≤ i) (h : i < l.length) : (decide (0 ≤ i) && decide (i < (l.length : Int))) = true := by
  simp only [Bool.and_eq_true, decide_eq_true_eq]; omega
theorem wrap_succ {i : Nat} (h : i < 9223372036854775807) : IntKind.wrap IntKind.i64 ((i : Int) + 1) = ((i + 1 : Nat) : Int) := by
  rw [wrap_id] <;> omega
theorem getD_lt {α : Type} {l : List α} {i : Nat} {d : α} (h : i < l.length) : l.getD i d = l[i] := by
  simp [List.getD, h]
theorem drop_cons {α : Type} {l : List α} {i : Nat} (h : i < l.length) : l.drop i = l[i] :: l.drop (i + 1) := List.drop_eq_getElem_cons h
theorem drop_end {α : Type} {l : List α} {i : Nat} (h : ¬ i < l.length) : l.drop i = [] := List.drop_eq_nil_of_le (by omega)

/-- how much a value bears -/
def tot : (t : Ty) → t.den → Nat
  | .unit, _ => 0
  | .int _, _ => 0
  | .bool, _ => 0
  | .str, s => s.size
  | .sl t, xs => xs.length + (xs.map (tot t)).sum
  | .pair a b, x => tot a x.1 + tot b x.2
/-- what a size law tells -/
def left (t : Ty) (a : t.den) (k : Int) : Int := if (tot t a : Int) ≤ k then k - tot t a else -1

theorem sum_drop {l : List Nat} {i : Nat} (h : i < l.length) : (l.drop i).sum = l[i] + (l.drop (i + 1)).sum := by
  rw [drop_cons h, List.sum_cons]
theorem map_drop_sum {α : Type} {f : α → Nat} {l : List α} {i : Nat} (h : i < l.length) : ((l.drop i).map f).sum = f l[i] + ((l.drop (i + 1)).map f).sum := by
  rw [drop_cons h, List.map_cons, List.sum_cons]
theorem tot_mem {t : Ty} : ∀ {xs : List t.den} {x : t.den}, x ∈ xs → tot t x + xs.length ≤ tot (.sl t) xs
  | y :: xs, x, h => by
    simp only [tot, List.length_cons, List.map_cons, List.sum_cons]
    rcases List.mem_cons.1 h with rfl | h
    · have : xs.length ≤ xs.length + (xs.map (tot t)).sum := by omega
      omega
    · have := tot_mem h
      simp only [tot] at this
      omega
theorem beq_bytes {a b : ByteArray} : List.beq a.toList b.toList = decide (a = b) := by
  have h1 : List.beq a.toList b.toList = decide (a.toList = b.toList) := by
    have : (a.toList == b.toList) = decide (a.toList = b.toList) := by
      by_cases h : a.toList = b.toList <;> simp [h]
    exact this
  rw [h1]
  by_cases h : a = b
  · simp [h]
  · have : a.toList ≠ b.toList := fun e => h (by
      have h2 : a.data.toList = b.data.toList := by
        have := e
        simpa [ByteArray.toList_eq] using this
      cases a; cases b
      simp only [ByteArray.mk.injEq]
      exact Array.toList_inj.1 h2)
    simp [h, this]
end Go.G

/- The row FnExactWayLess holds: for all arguments the law returns true and the arguments read as before. No condition. -/
namespace Go.G
set_option linter.unusedVariables false
set_option maxRecDepth 100000
open Go Go.V Go.Proofs

theorem szWay_some (D : Den ctx) (n : Nat) (a : ByteArray × ByteArray × Unit) (x : Int) : ∃ v, F_laws_szWay D n a x = some ((v, ()), ()) := by
  simp only [F_laws_szWay, laws_szWay_e, br_ite]
  split
  · exact ⟨_, rfl⟩
  · split <;> exact ⟨_, rfl⟩
theorem fnExactWayLess_law (a0 a1 : ByteArray × ByteArray × Unit) : C_laws_FnExactWayLess (DD noExt 2) a0 a1 = some ((true, ()), ()) := by
  rw [S_laws_FnExactWayLess noExt_ok]
  simp only [F_laws_FnExactWayLess, laws_FnExactWayLess_e, S_laws_szWay noExt_ok, S_laws_toWay noExt_ok, S_spec_WayLess noExt_ok, S_impl_WayLess noExt_ok,
    F_laws_toWay, laws_toWay_e, F_spec_WayLess, spec_WayLess_e, F_impl_WayLess, impl_WayLess_e]
  obtain ⟨x, hx⟩ := szWay_some (DD noExt 0) 0 a0 1048576
  rw [hx, bindD_some]
  obtain ⟨y, hy⟩ := szWay_some (DD noExt 0) 0 a1 x
  simp only [hy, bindD_some, decide_true, Bool.not_true, br_f, br_same]

end Go.G
namespace Go.Proofs.Ytjjcilkcffigeaa
open Go.ChangeShapes Go.WideShapes Go.ChangeAt Go.RowKit Go.V Go.G
set_option maxRecDepth 100000
theorem fnExactWayLess_lifted (os : Os) (started : os.Started) (H : Type) (enc : TypeId × Value → H) :
    ReturnsInHanded {} Try.checked os 3 .any (Rows.fnExactWayLessSpec.pre6 enc Try.prog Try.f3 Rows.fnExactWayLessRow.domain false) (Rows.fnExactWayLessSpec.post enc Try.prog Try.f3 false true false false) :=
  lifted_of (X := noExt) (tb := 4) started Try.func3 (by kernel_rfl)
    (ChangeSpec.witness6 (enc := enc) (C := Try.checked) false ⟨#[], Try.f3.params.map fun t => ((Try.prog.info? t).bind (·.zero)).getD .nilIface, []⟩ 8 (by kernel_rfl) (by kernel_rfl) (by kernel_rfl) (by kernel_rfl))
    ⟨rfl, rfl, rfl, rfl, trivial⟩ (by kernel_rfl) (by kernel_rfl) (by kernel_rfl) rfl
    (fun ds h => by
      match ds, h with
      | [d1, d2], _ => exact ⟨rfl, rfl, rfl⟩)
    (fun a _ => ⟨2, ((true, ()), ()), fnExactWayLess_law a.1 a.2.1, fun h Pr Gs us k => by
      obtain ⟨v, vs, rfl, ⟨c, r, rfl⟩, e⟩ := k
      obtain rfl : vs = [] := e
      simp only [Rep] at r
      subst r
      rfl⟩)
theorem fnExactWayLess_holds : Rows.FnExactWayLessSaid :=
  OpenClaim.holds_of_wide 3 Try.f3 rfl rfl rfl rfl rfl rfl rfl ⟨rfl, rfl, rfl, rfl, rfl⟩ rfl rfl rfl rfl rfl (by kernel_rfl) Try.func3 (by kernel_rfl)
    (of_decide_eq_true (by kernel_rfl)) (by unfold Func.isWrapper; first | (rw [if_pos (by decide +kernel)]; kernel_rfl) | (rw [if_neg (by decide +kernel)]; exact ⟨rfl, rfl⟩))
    (fun os started H enc _ => fnExactWayLess_lifted os started H enc)
#print axioms fnExactWayLess_holds
end Go.Proofs.Ytjjcilkcffigeaa


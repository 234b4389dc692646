/- The row FnExactSkipNew holds: the law returns true. No condition. -/
import Derived.Test.YtjjcilkcffigeaaAPFnExactSkipNew0
/- B, part 0: plain laws for the printed functions. No condition. -/
namespace Go.G
set_option linter.unusedVariables false
open Go Go.V

theorem br_t {R : Type} {a b : Option R} : br true a b = a := rfl
theorem br_f {R : Type} {a b : Option R} : br false a b = b := rfl
theorem br_pos {R : Type} {a b : Option R} {p : Prop} [Decidable p] (h : p) : br (decide p) a b = a := by simp [br, h]
theorem br_neg {R : Type} {a b : Option R} {p : Prop} [Decidable p] (h : ¬ p) : br (decide p) a b = b := by simp [br, h]
theorem bindD_some {α R : Type} {a : α} {f : α → Option R} : bindD (some a) f = f a := rfl
theorem br_same {R : Type} {c : Bool} {a : Option R} : br c a a = a := by cases c <;> rfl
theorem br_ite {R : Type} {c : Bool} {a b : Option R} : br c a b = if c = true then a else b := by cases c <;> rfl
theorem wrap_form (x : Int) : IntKind.wrap IntKind.i64 x = if x % 18446744073709551616 ≥ 9223372036854775808 then x % 18446744073709551616 - 18446744073709551616 else x % 18446744073709551616 := by
  by_cases h : x % 18446744073709551616 ≥ 9223372036854775808 <;> simp [IntKind.wrap, IntKind.signed, IntKind.bits, h]
theorem wrap_id {x : Int} (h1 : -9223372036854775808 ≤ x) (h2 : x ≤ 9223372036854775807) : IntKind.wrap IntKind.i64 x = x := by
  rw [wrap_form]
  split <;> omega
theorem wrap_lo (x : Int) : -9223372036854775808 ≤ IntKind.wrap IntKind.i64 x ∧ IntKind.wrap IntKind.i64 x ≤ 9223372036854775807 := by
  rw [wrap_form]
  split <;> omega

/-- rounds enough for every loop -/
def W : Nat := 9223372036854775808
theorem W_def : W = 9223372036854775808 := rfl
theorem maxLen_def : maxLen = 9223372036854775807 := rfl
theorem bound_def : bound = 274877906944 := rfl

theorem ix {α : Type} {l : List α} {i : Nat} (h : i < l.length) : (decide (0 ≤ (i : Int)) && decide ((i : Int) < (l.length : Int))) = true := by
  simp only [Bool.and_eq_true, decide_eq_true_eq]; omega
theorem ixn {α : Type} {l : List α} {i : Int} (h0 : 0 ≤ i) (h : i < l.length) : (decide (0 ≤ i) && decide (i < (l.length : Int))) = true := by
  simp only [Bool.and_eq_true, decide_eq_true_eq]; omega
theorem wrap_succ {i : Nat} (h : i < 9223372036854775807) : IntKind.wrap IntKind.i64 ((i : Int) + 1) = ((i + 1 : Nat) : Int) := by
  rw [wrap_id] <;> omega
theorem getD_lt {α : Type} {l : List α} {i : Nat} {d : α} (h : i < l.length) : l.getD i d = l[i] := by
  simp [List.getD, h]
theorem drop_cons {α : Type} {l : List α} {i : Nat} (h : i < l.length) : l.drop i = l[i] :: l.drop (i + 1) := List.drop_eq_getElem_cons h
theorem drop_end {α : Type} {l : List α} {i : Nat} (h : ¬ i < l.length) : l.drop i = [] := List.drop_eq_nil_of_le (by omega)

/-- how much a value bears -/
def tot : (t : Ty) → t.den → Nat
  | .unit, _ => 0
  | .int _, _ => 0
  | .bool, _ => 0
  | .str, s => s.size
  | .sl t, xs => xs.length + (xs.map (tot t)).sum
  | .pair a b, x => tot a x.1 + tot b x.2
/-- what a size law tells -/
def left (t : Ty) (a : t.den) (k : Int) : Int := if (tot t a : Int) ≤ k then k - tot t a else -1

theorem sum_drop {l : List Nat} {i : Nat} (h : i < l.length) : (l.drop i).sum = l[i] + (l.drop (i + 1)).sum := by
  rw [drop_cons h, List.sum_cons]
theorem map_drop_sum {α : Type} {f : α → Nat} {l : List α} {i : Nat} (h : i < l.length) : ((l.drop i).map f).sum = f l[i] + ((l.drop (i + 1)).map f).sum := by
  rw [drop_cons h, List.map_cons, List.sum_cons]
theorem tot_mem {t : Ty} : ∀ {xs : List t.den} {x : t.den}, x ∈ xs → tot t x + xs.length ≤ tot (.sl t) xs
  | y :: xs, x, h => by
    simp only [tot, List.length_cons, List.map_cons, List.sum_cons]
    rcases List.mem_cons.1 h with rfl | h
    · have : xs.length ≤ xs.length + (xs.map (tot t)).sum := by omega
      omega
    · have := tot_mem h
      simp only [tot] at this
      omega
theorem beq_bytes {a b : ByteArray} : List.beq a.toList b.toList = decide (a = b) := by
  have h1 : List.beq a.toList b.toList = decide (a.toList = b.toList) := by
    have : (a.toList == b.toList) = decide (a.toList = b.toList) := by
      by_cases h : a.toList = b.toList <;> simp [h]
    exact this
  rw [h1]
  by_cases h : a = b
  · simp [h]
  · have : a.toList ≠ b.toList := fun e => h (by
      have h2 : a.data.toList = b.data.toList := by
        have := e
        simpa [ByteArray.toList_eq] using this
      cases a; cases b
      simp only [ByteArray.mk.injEq]
      exact Array.toList_inj.1 h2)
    simp [h, this]
end Go.G

/- B, part 1: the laws' helpers on numbers' rows: sizes, copies, comparisons, marks. No condition. -/
namespace Go.G
set_option linter.unusedVariables false
set_option linter.unusedSimpArgs false
open Go Go.V

abbrev IntsT : Ty := .sl (.int .i64)
theorem tot_ints (a : List Int) : tot IntsT a = a.length := by
  have : ∀ l : List Int, (l.map fun _ => 0).sum = 0 := by
    intro l; induction l with
    | nil => rfl
    | cons x l ih => simp [ih]
  have e : (a.map (tot (.int .i64))) = a.map fun _ => 0 := by
    apply List.map_congr_left; intro x _; simp only [tot]
  show a.length + (a.map (tot (.int .i64))).sum = a.length
  rw [e, this]; omega

theorem take_set {α : Type} {l : List α} {i : Nat} {x : α} (h : i < l.length) : (l.set i x).take (i + 1) = l.take i ++ [x] := by
  rw [List.take_add_one, List.take_set_of_le (Nat.le_refl _)]
  simp [List.getElem?_set, h]
theorem eqIntS_L (D : Den ctx) (n : Nat) (K0 : Bool → Option ((Bool × Unit) × Unit)) (K1 : Option ((Bool × Unit) × Unit)) : ∀ (m i : Nat) (a b : List Int), a.length = b.length → a.length ≤ maxLen → i ≤ a.length → a.length - i < m →
    laws_eqIntS_L0 D n K0 K1 m a b i = if a.drop i = b.drop i then K1 else K0 false
  | 0, _, _, _, _, _, _, h => by omega
  | m + 1, i, a, b, hl, hm, hi, hk => by
    simp only [laws_eqIntS_L0, laws_eqIntS_b0]
    rw [maxLen_def] at hm
    by_cases h : i < a.length
    · rw [br_pos (by exact_mod_cast h), ix h, br_t, ix (hl ▸ h), br_t, wrap_succ (by omega), Int.toNat_natCast, getD_lt h, getD_lt (hl ▸ h), drop_cons h, drop_cons (hl ▸ h : i < b.length)]
      by_cases e : a[i] = b[i]'(hl ▸ h)
      · rw [e]
        simp only [bne_self_eq_false, br_f, List.cons.injEq, true_and]
        exact eqIntS_L D n K0 K1 m (i + 1) a b hl (by rw [maxLen_def]; omega) (by omega) (by omega)
      · have : (a[i] != b[i]'(hl ▸ h)) = true := by simp [e]
        rw [this, br_t]; simp only [List.cons.injEq, e, false_and, if_false]
    · rw [br_neg (by exact_mod_cast h), drop_end h, drop_end (hl ▸ h)]; rfl

theorem c_eqIntS {X : Ext} (hX : XOk X) {n : Nat} (hn : W + 1 ≤ n) (a b : List Int) (hb : b.length ≤ maxLen) : C_laws_eqIntS (DD X n) a b = some ((decide (a = b), ()), ()) := by
  obtain ⟨n, rfl⟩ : ∃ k, n = k + 1 := ⟨n - 1, by omega⟩
  rw [S_laws_eqIntS hX]
  simp only [F_laws_eqIntS, laws_eqIntS_e, laws_eqIntS_LP0]
  by_cases h : a.length = b.length
  · have e : ((a.length : Int) != (b.length : Int)) = false := by simp [h]
    rw [e, br_f]
    have := eqIntS_L (DD X n) n (fun v => laws_eqIntS_x0_0 (DD X n) n v) (laws_eqIntS_x0_1 (DD X n) n) n 0 a b h (by omega) (by omega) (by have := W_def; have := maxLen_def; omega)
    rw [show ((0 : Nat) : Int) = 0 from rfl] at this
    rw [this]
    simp only [List.drop_zero, laws_eqIntS_x0_0, laws_eqIntS_x0_1]
    by_cases h : a = b <;> simp [h]
  · have e : ((a.length : Int) != (b.length : Int)) = true := by simp; omega
    have : a ≠ b := fun h2 => h (by rw [h2])
    rw [e, br_t]; simp [this]

theorem toIntS_L (D : Den ctx) (n : Nat) (K : List Int → Option ((List Int × Unit) × Unit)) : ∀ (m i : Nat) (a c : List Int), a.length = c.length → a.length ≤ maxLen → i ≤ a.length → a.length - i < m →
    laws_toIntS_L0 D n K m a i c = K (c.take i ++ a.drop i)
  | 0, _, _, _, _, _, _, h => by omega
  | m + 1, i, a, c, hl, hm, hi, hk => by
    simp only [laws_toIntS_L0, laws_toIntS_b0]
    rw [maxLen_def] at hm
    by_cases h : i < a.length
    · rw [br_pos (by exact_mod_cast h), ix h, br_t, ix (hl ▸ h), br_t, wrap_succ (by omega), Int.toNat_natCast, getD_lt h, toIntS_L D n K m (i + 1) a _ (by simp [hl]) (by rw [maxLen_def]; omega) (by omega) (by omega)]
      congr 1
      rw [drop_cons h, take_set (hl ▸ h), List.append_assoc]; rfl
    · rw [br_neg (by exact_mod_cast h), drop_end h, List.take_of_length_le (by omega), List.append_nil]

theorem to_cond {a : Nat} (h : a ≤ bound) : (decide (0 ≤ (a : Int)) && decide ((a : Int) ≤ (a : Int)) && decide ((a : Int) ≤ ((bound : Nat) : Int))) = true := by
  simp only [Bool.and_eq_true, decide_eq_true_eq]; omega
theorem c_toIntS {X : Ext} (hX : XOk X) {n : Nat} (hn : W + 1 ≤ n) (a : List Int) (ha : a.length ≤ bound) : C_laws_toIntS (DD X n) a = some ((a, ()), ()) := by
  obtain ⟨n, rfl⟩ : ∃ k, n = k + 1 := ⟨n - 1, by omega⟩
  rw [S_laws_toIntS hX]
  simp only [F_laws_toIntS, laws_toIntS_e, laws_toIntS_LP0]
  rw [to_cond ha, br_t]
  have h1 := bound_def
  have := toIntS_L (DD X n) n (fun v => laws_toIntS_x0_0 (DD X n) n v) n 0 a (List.replicate (Int.toNat (a.length : Int)) 0) (by simp) (by rw [maxLen_def]; omega) (by omega) (by have := W_def; omega)
  rw [show ((0 : Nat) : Int) = 0 from rfl] at this
  rw [this]
  simp only [List.take_zero, List.drop_zero, List.nil_append, laws_toIntS_x0_0]

theorem c_szIntS {X : Ext} (hX : XOk X) {n : Nat} (hn : W + 1 ≤ n) (a : List Int) (k : Int) (ha : a.length ≤ maxLen) (hk : 0 ≤ k ∧ k ≤ maxLen) : C_laws_szIntS (DD X n) a k = some ((left IntsT a k, ()), ()) := by
  obtain ⟨n, rfl⟩ : ∃ k, n = k + 1 := ⟨n - 1, by omega⟩
  rw [maxLen_def] at ha hk
  rw [S_laws_szIntS hX]
  simp only [F_laws_szIntS, laws_szIntS_e, left, tot_ints]
  rw [wrap_id (by omega) (by omega)]
  by_cases h : k - (a.length : Int) < 0
  · rw [br_pos h, if_neg (by omega)]
  · rw [br_neg h, if_pos (by omega)]

/-- marks: numbers from k on -/
def markInts : Int → List Int → List Int
  | _, [] => []
  | k, _ :: l => k :: markInts (k + 1) l
theorem markInts_len : ∀ (l : List Int) (k : Int), (markInts k l).length = l.length
  | [], _ => rfl
  | _ :: l, k => by simp [markInts, markInts_len l]
theorem markIntS_L (D : Den ctx) (n : Nat) (K : Int → List Int → Option ((Int × Unit) × List Int × Unit)) : ∀ (m i : Nat) (k : Int) (a : List Int), a.length ≤ maxLen → i ≤ a.length → a.length - i < m → 0 ≤ k → k + (a.length - i) ≤ maxLen →
    laws_markIntS_L0 D n K m k i a = K (k + (a.length - i)) (a.take i ++ markInts k (a.drop i))
  | 0, _, _, _, _, _, h, _, _ => by omega
  | m + 1, i, k, a, hm, hi, hf, hk, hkl => by
    simp only [laws_markIntS_L0, laws_markIntS_b0]
    have hd := maxLen_def
    by_cases h : i < a.length
    · rw [br_pos (by exact_mod_cast h), ix h, br_t, wrap_succ (by omega), wrap_id (by omega) (by omega), Int.toNat_natCast]
      rw [markIntS_L D n K m (i + 1) (k + 1) _ (by simpa using hm) (by simp; omega) (by simp; omega) (by omega) (by simp only [List.length_set]; omega), take_set h, drop_cons h, List.drop_set_of_lt (by omega)]
      simp only [List.length_set, List.append_assoc, markInts, List.singleton_append]
      congr 1
      omega
    · rw [br_neg (by exact_mod_cast h), drop_end h, List.take_of_length_le (by omega)]
      simp only [markInts, List.append_nil]
      congr 1
      omega
theorem c_markIntS {X : Ext} (hX : XOk X) {n : Nat} (hn : W + 1 ≤ n) (a : List Int) (k : Int) (hk : 0 ≤ k) (h : k + a.length ≤ maxLen) : C_laws_markIntS (DD X n) a k = some ((k + a.length, ()), (markInts k a, ())) := by
  obtain ⟨n, rfl⟩ : ∃ k, n = k + 1 := ⟨n - 1, by omega⟩
  have hd := maxLen_def
  rw [S_laws_markIntS hX]
  simp only [F_laws_markIntS, laws_markIntS_e, laws_markIntS_LP0]
  have := markIntS_L (DD X n) n (fun v w => laws_markIntS_x0_0 (DD X n) n v w) n 0 k a (by omega) (by omega) (by have := W_def; omega) hk (by omega)
  rw [show ((0 : Nat) : Int) = 0 from rfl] at this
  rw [this]
  simp only [List.take_zero, List.drop_zero, List.nil_append, laws_markIntS_x0_0, Int.sub_zero]
theorem heldIntS_L (D : Den ctx) (n : Nat) (K0 : Int → Int → Option ((Int × Unit) × Unit)) (K1 : Int → Option ((Int × Unit) × Unit)) : ∀ (m i : Nat) (k k0 : Int) (a l : List Int), a.length ≤ maxLen → i ≤ a.length → a.length - i < m → 0 ≤ k → k + (a.length - i) ≤ maxLen →
    a.drop i = markInts k l → laws_heldIntS_L0 D n K0 K1 m a k i = K1 (k + (a.length - i))
  | 0, _, _, _, _, _, _, _, h, _, _, _ => by omega
  | m + 1, i, k, k0, a, l, hm, hi, hf, hk, hkl, hl => by
    simp only [laws_heldIntS_L0, laws_heldIntS_b0]
    have hd := maxLen_def
    by_cases h : i < a.length
    · rw [br_pos (by exact_mod_cast h), ix h, br_t, wrap_succ (by omega), wrap_id (by omega) (by omega), Int.toNat_natCast, getD_lt h]
      rw [drop_cons h] at hl
      cases l with
      | nil => simp [markInts] at hl; omega
      | cons x l =>
        simp only [markInts, List.cons.injEq] at hl
        rw [hl.1, bne_self_eq_false, br_f]
        rw [heldIntS_L D n K0 K1 m (i + 1) (k + 1) k0 a l hm (by omega) (by omega) (by omega) (by omega) hl.2]
        congr 1
        omega
    · rw [br_neg (by exact_mod_cast h)]
      congr 1
      omega
theorem c_heldIntS {X : Ext} (hX : XOk X) {n : Nat} (hn : W + 1 ≤ n) (a : List Int) (k : Int) (hk : 0 ≤ k) (h : k + a.length ≤ maxLen) : C_laws_heldIntS (DD X n) (markInts k a) k = some ((k + a.length, ()), ()) := by
  obtain ⟨n, rfl⟩ : ∃ k, n = k + 1 := ⟨n - 1, by omega⟩
  have hd := maxLen_def
  rw [S_laws_heldIntS hX]
  simp only [F_laws_heldIntS, laws_heldIntS_e, laws_heldIntS_LP0]
  have hml := markInts_len a k
  have := heldIntS_L (DD X n) n (fun v w => laws_heldIntS_x0_0 (DD X n) n v w) (fun v => laws_heldIntS_x0_1 (DD X n) n v) n 0 k k (markInts k a) a (by omega) (by omega) (by have := W_def; omega) hk (by omega) (by simp)
  rw [show ((0 : Nat) : Int) = 0 from rfl] at this
  rw [this]
  simp only [laws_heldIntS_x0_1, Int.sub_zero, hml]

/-! marks of strings -/
def mdigit (x : Int) : ByteArray := ByteArray.mk (List.toArray (List.map (fun n ↦ UInt8.ofNat (Int.toNat n)) [IntKind.wrap IntKind.u8 (IntKind.wrap IntKind.i64 (48 + Int.tmod x 10))]))
def mdigits : Nat → Int → ByteArray → ByteArray
  | 0, _, s => s
  | f + 1, x, s => if x > 0 then mdigits f (Int.tdiv x 10) (ByteArray.append (mdigit x) s) else s
def mtext (k : Int) : ByteArray := if k ≤ 0 then ByteArray.mk #[UInt8.ofNat 109, UInt8.ofNat 48] else ByteArray.append (ByteArray.mk #[UInt8.ofNat 109]) (mdigits 19 k (ByteArray.mk #[]))
theorem append_size (a b : ByteArray) : (ByteArray.append a b).size = a.size + b.size := ByteArray.size_append
theorem mdigit_size (x : Int) : (mdigit x).size = 1 := rfl
theorem mdigits_size : ∀ (f : Nat) (x : Int) (s : ByteArray), (mdigits f x s).size ≤ s.size + f
  | 0, _, s => by simp [mdigits]
  | f + 1, x, s => by
    simp only [mdigits]
    split
    · have := mdigits_size f (Int.tdiv x 10) (ByteArray.append (mdigit x) s)
      rw [append_size, mdigit_size] at this
      omega
    · omega
theorem markText_L (D : Den ctx) (n : Nat) (K : ByteArray → Option ((ByteArray × Unit) × Unit)) : ∀ (f m : Nat) (x : Int) (s : ByteArray), f < m → 0 ≤ x → x < 10 ^ f → x ≤ maxLen → s.size + f ≤ 2 ^ 47 → laws_markText_L0 D n K m x s = K (mdigits f x s)
  | f, 0, _, _, h, _, _, _, _ => by omega
  | 0, m + 1, x, s, _, h0, hx, _, _ => by
    simp only [laws_markText_L0, laws_markText_b0, mdigits]
    rw [br_neg (by simp at hx; omega)]
  | f + 1, m + 1, x, s, hf, h0, hx, hm, hs => by
    simp only [laws_markText_L0, laws_markText_b0, mdigits]
    have hd := maxLen_def
    by_cases h : x > 0
    · rw [br_pos h, if_pos h, br_pos (by show (mdigit x).size + s.size ≤ Nat.pow 2 47; rw [mdigit_size]; show 1 + s.size ≤ 2 ^ 47; omega)]
      have e : Int.tdiv x 10 = x / 10 := Int.tdiv_eq_ediv_of_nonneg h0
      rw [wrap_id (by rw [e]; omega) (by rw [e]; omega)]
      refine markText_L D n K f m _ _ (by omega) (by rw [e]; omega) ?_ (by rw [e]; omega) ?_
      · rw [e]
        have : (10 : Int) ^ (f + 1) = 10 ^ f * 10 := Int.pow_succ ..
        omega
      · show (ByteArray.append (mdigit x) s).size + f ≤ 2 ^ 47
        rw [append_size, mdigit_size]; omega
    · rw [br_neg h, if_neg h]
theorem c_markText {X : Ext} (hX : XOk X) {n : Nat} (hn : W + 1 ≤ n) (k : Int) (hk : k ≤ maxLen) : C_laws_markText (DD X n) k = some ((mtext k, ()), ()) := by
  obtain ⟨n, rfl⟩ : ∃ k, n = k + 1 := ⟨n - 1, by omega⟩
  have hd := maxLen_def
  rw [S_laws_markText hX]
  simp only [F_laws_markText, laws_markText_e, laws_markText_LP0, mtext]
  by_cases h : k ≤ 0
  · rw [br_pos h, if_pos h]
  · rw [br_neg h, if_neg h, markText_L (DD X n) n _ 19 n k _ (by have := W_def; omega) (by omega) (by omega) hk (by show 0 + 19 ≤ 2 ^ 47; decide)]
    simp only [laws_markText_x0_0]
    have h1 := mdigits_size 19 k (ByteArray.mk #[])
    have h2 : (ByteArray.mk #[]).size = 0 := rfl
    rw [br_pos]
    show 1 + (mdigits 19 k (ByteArray.mk #[])).size ≤ 2 ^ 47
    omega
end Go.G

/- B, part 2: the laws' helpers: what they share. No condition. -/
namespace Go.G
set_option linter.unusedVariables false
set_option linter.unusedSimpArgs false
open Go Go.V

/-- marks, one behind another -/
def mkL {α : Type} (f : Int → α → Int × α) : Int → List α → Int × List α
  | k, [] => (k, [])
  | k, x :: l => ((mkL f (f k x).1 l).1, (f k x).2 :: (mkL f (f k x).1 l).2)
def mkT : (t : Ty) → Int → t.den → Int × t.den
  | .unit, k, x => (k, x)
  | .int _, k, _ => (k + 1, k)
  | .bool, k, _ => (k + 1, decide (Int.tmod k 3 = 0))
  | .str, k, _ => (k + 1, mtext k)
  | .sl t, k, xs => mkL (mkT t) k xs
  | .pair a b, k, x => ((mkT b (mkT a k x.1).1 x.2).1, ((mkT a k x.1).2, (mkT b (mkT a k x.1).1 x.2).2))
/-- how many they are -/
def cnt : (t : Ty) → t.den → Nat
  | .unit, _ => 0
  | .int _, _ => 1
  | .bool, _ => 1
  | .str, _ => 1
  | .sl t, xs => (xs.map (cnt t)).sum
  | .pair a b, x => cnt a x.1 + cnt b x.2
theorem mkL_cnt {t : Ty} (h : ∀ k x, (mkT t k x).1 = k + cnt t x) : ∀ (k : Int) (xs : List t.den), (mkL (mkT t) k xs).1 = k + ((xs.map (cnt t)).sum : Nat)
  | k, [] => by simp [mkL]
  | k, x :: l => by
    simp only [mkL, mkL_cnt h, h, List.map_cons, List.sum_cons]
    omega
theorem mkT_cnt : ∀ (t : Ty) (k : Int) (x : t.den), (mkT t k x).1 = k + cnt t x
  | .unit, k, x => by simp [mkT, cnt]
  | .int _, k, _ => by simp [mkT, cnt]
  | .bool, k, _ => by simp [mkT, cnt]
  | .str, k, _ => by simp [mkT, cnt]
  | .sl t, k, xs => by simp only [mkT, cnt]; exact mkL_cnt (mkT_cnt t) k xs
  | .pair a b, k, x => by simp only [mkT, cnt, mkT_cnt a, mkT_cnt b]; omega
theorem mkL_len {α : Type} {f : Int → α → Int × α} : ∀ (k : Int) (xs : List α), (mkL f k xs).2.length = xs.length
  | _, [] => rfl
  | k, x :: l => by simp [mkL, mkL_len]
theorem cnt_mem {t : Ty} : ∀ {xs : List t.den} {i : Nat} (h : i < xs.length), cnt t xs[i] + ((xs.drop (i + 1)).map (cnt t)).sum = ((xs.drop i).map (cnt t)).sum := by
  intro xs i h; rw [map_drop_sum h]

theorem tot_sl {t : Ty} (a : List t.den) : tot (.sl t) a = a.length + (a.map (tot t)).sum := rfl
theorem cnt_sl {t : Ty} (a : List t.den) : cnt (.sl t) a = (a.map (cnt t)).sum := rfl
theorem left_pos {t : Ty} {a : t.den} {k : Int} (h : (tot t a : Int) ≤ k) : left t a k = k - tot t a := if_pos h
theorem left_neg {t : Ty} {a : t.den} {k : Int} (h : ¬ (tot t a : Int) ≤ k) : left t a k = -1 := if_neg h
theorem left_nonneg {t : Ty} {a : t.den} {k : Int} (h : ¬ left t a k < 0) (hk : 0 ≤ k) : left t a k = k - tot t a ∧ (tot t a : Int) ≤ k := by
  unfold left at h ⊢
  split at h
  · rename_i h1; rw [if_pos h1]; exact ⟨rfl, h1⟩
  · omega
theorem getD_set_same {α : Type} {l : List α} {i : Nat} {x d : α} (h : i < l.length) : (l.set i x).getD i d = x := by
  simp [List.getD, h]
theorem markInts_mk : ∀ (k : Int) (a : List Int), mkT IntsT k a = (k + a.length, markInts k a)
  | k, [] => by simp [mkT, mkL, markInts]
  | k, x :: a => by
    have := markInts_mk (k + 1) a
    simp only [mkT] at this
    simp only [mkT, mkL, markInts, this, List.length_cons]
    congr 1
    omega
theorem cnt_ints (a : List Int) : cnt IntsT a = a.length := by
  have h1 := mkT_cnt IntsT 0 a
  rw [markInts_mk] at h1
  simp only at h1
  omega
theorem m_markIntS {X : Ext} (hX : XOk X) {n : Nat} (hn : W + 1 ≤ n) (a : List Int) (k : Int) (hk : 0 ≤ k) (h : k + cnt IntsT a ≤ maxLen) : C_laws_markIntS (DD X n) a k = some (((mkT IntsT k a).1, ()), ((mkT IntsT k a).2, ())) := by
  rw [markInts_mk]; rw [cnt_ints] at h; exact c_markIntS hX hn a k hk h
theorem m_heldIntS {X : Ext} (hX : XOk X) {n : Nat} (hn : W + 1 ≤ n) (a : List Int) (k : Int) (hk : 0 ≤ k) (h : k + cnt IntsT a ≤ maxLen) : C_laws_heldIntS (DD X n) (mkT IntsT k a).2 k = some (((mkT IntsT k a).1, ()), ()) := by
  rw [markInts_mk]; rw [cnt_ints] at h; exact c_heldIntS hX hn a k hk h
end Go.G

/- B, part 3: the laws' helpers on lanes. No condition. -/
namespace Go.G
set_option linter.unusedVariables false
set_option linter.unusedSimpArgs false
open Go Go.V

abbrev LaneT : Ty := .pair .str (.pair (.sl (.int .i64)) .unit)
abbrev Lane := ByteArray × List Int × Unit

theorem c_eqLane {X : Ext} (hX : XOk X) {n : Nat} (hn : W + 2 ≤ n) (a b : Lane) (hb : b.2.1.length ≤ maxLen) : C_laws_eqLane (DD X n) a b = some ((decide (a = b), ()), ()) := by
  obtain ⟨n, rfl⟩ : ∃ k, n = k + 1 := ⟨n - 1, by omega⟩
  rw [S_laws_eqLane hX]
  obtain ⟨a1, a2, ⟨⟩⟩ := a
  obtain ⟨b1, b2, ⟨⟩⟩ := b
  simp only [F_laws_eqLane, laws_eqLane_e, beq_bytes]
  rw [c_eqIntS hX (by omega) _ _ hb, bindD_some]
  by_cases h1 : a1 = b1 <;> by_cases h2 : a2 = b2 <;> simp [h1, h2, br]

theorem eqLaneS_L (D : Den ctx) (n : Nat) (K0 : Bool → Option ((Bool × Unit) × Unit)) (K1 : Option ((Bool × Unit) × Unit)) : ∀ (m i : Nat) (a b : List Lane), (∀ x y, y ∈ b → C_laws_eqLane D x y = some ((decide (x = y), ()), ())) →
    a.length = b.length → a.length ≤ maxLen → i ≤ a.length → a.length - i < m → laws_eqLaneS_L0 D n K0 K1 m a b i = if a.drop i = b.drop i then K1 else K0 false
  | 0, _, _, _, _, _, _, _, h => by omega
  | m + 1, i, a, b, he, hl, hm, hi, hk => by
    simp only [laws_eqLaneS_L0, laws_eqLaneS_b0]
    have hd := maxLen_def
    by_cases h : i < a.length
    · rw [br_pos (by exact_mod_cast h), ix h, br_t, ix (hl ▸ h), br_t, wrap_succ (by omega), Int.toNat_natCast, getD_lt h, getD_lt (hl ▸ h), he _ _ (List.getElem_mem _), bindD_some, drop_cons h, drop_cons (hl ▸ h : i < b.length)]
      by_cases e : a[i] = b[i]'(hl ▸ h)
      · simp only [e, decide_true, Bool.not_true, br_f, List.cons.injEq, true_and]
        exact eqLaneS_L D n K0 K1 m (i + 1) a b he hl hm (by omega) (by omega)
      · simp only [e, decide_false, Bool.not_false, br_t, List.cons.injEq, false_and, if_false]
    · rw [br_neg (by exact_mod_cast h), drop_end h, drop_end (hl ▸ h)]; rfl
theorem c_eqLaneS {X : Ext} (hX : XOk X) {n : Nat} (hn : W + 3 ≤ n) (a b : List Lane) (hb : b.length ≤ maxLen) (he : ∀ y ∈ b, y.2.1.length ≤ maxLen) : C_laws_eqLaneS (DD X n) a b = some ((decide (a = b), ()), ()) := by
  obtain ⟨n, rfl⟩ : ∃ k, n = k + 1 := ⟨n - 1, by omega⟩
  rw [S_laws_eqLaneS hX]
  simp only [F_laws_eqLaneS, laws_eqLaneS_e, laws_eqLaneS_LP0]
  by_cases h : a.length = b.length
  · have e : ((a.length : Int) != (b.length : Int)) = false := by simp [h]
    rw [e, br_f]
    have := eqLaneS_L (DD X n) n (fun v => laws_eqLaneS_x0_0 (DD X n) n v) (laws_eqLaneS_x0_1 (DD X n) n) n 0 a b (fun x y hy => c_eqLane hX (by omega) x y (he y hy)) h (by omega) (by omega) (by have := W_def; have := maxLen_def; omega)
    rw [show ((0 : Nat) : Int) = 0 from rfl] at this
    rw [this]
    simp only [List.drop_zero, laws_eqLaneS_x0_0, laws_eqLaneS_x0_1]
    by_cases h : a = b <;> simp [h]
  · have e : ((a.length : Int) != (b.length : Int)) = true := by simp; omega
    have : a ≠ b := fun h2 => h (by rw [h2])
    rw [e, br_t]; simp [this]

theorem c_toLane {X : Ext} (hX : XOk X) {n : Nat} (hn : W + 2 ≤ n) (a : Lane) (ha : a.2.1.length ≤ bound) : C_laws_toLane (DD X n) a = some ((a, ()), ()) := by
  obtain ⟨n, rfl⟩ : ∃ k, n = k + 1 := ⟨n - 1, by omega⟩
  rw [S_laws_toLane hX]
  simp only [F_laws_toLane, laws_toLane_e]
  rw [c_toIntS hX (by omega) _ ha, bindD_some]
theorem toLaneS_L (D : Den ctx) (n : Nat) (K : List Lane → Option ((List Lane × Unit) × Unit)) : ∀ (m i : Nat) (a c : List Lane), (∀ x ∈ a, C_laws_toLane D x = some ((x, ()), ())) → a.length = c.length → a.length ≤ maxLen → i ≤ a.length → a.length - i < m →
    laws_toLaneS_L0 D n K m a i c = K (c.take i ++ a.drop i)
  | 0, _, _, _, _, _, _, _, h => by omega
  | m + 1, i, a, c, he, hl, hm, hi, hk => by
    simp only [laws_toLaneS_L0, laws_toLaneS_b0]
    have hd := maxLen_def
    by_cases h : i < a.length
    · rw [br_pos (by exact_mod_cast h), ix h, br_t, Int.toNat_natCast, getD_lt h, he _ (List.getElem_mem _), bindD_some, ix (hl ▸ h), br_t, wrap_succ (by omega)]
      have e := toLaneS_L D n K m (i + 1) a (c.set i a[i]) he (by simp [hl]) hm (by omega) (by omega)
      rw [drop_cons h]
      refine Eq.trans e ?_
      rw [take_set (hl ▸ h), List.append_assoc]; rfl
    · rw [br_neg (by exact_mod_cast h), drop_end h, List.take_of_length_le (by omega), List.append_nil]
theorem c_toLaneS {X : Ext} (hX : XOk X) {n : Nat} (hn : W + 3 ≤ n) (a : List Lane) (ha : a.length ≤ bound) (he : ∀ x ∈ a, x.2.1.length ≤ bound) : C_laws_toLaneS (DD X n) a = some ((a, ()), ()) := by
  obtain ⟨n, rfl⟩ : ∃ k, n = k + 1 := ⟨n - 1, by omega⟩
  rw [S_laws_toLaneS hX]
  simp only [F_laws_toLaneS, laws_toLaneS_e, laws_toLaneS_LP0]
  rw [to_cond ha, br_t]
  have h1 := bound_def
  have := toLaneS_L (DD X n) n (fun v => laws_toLaneS_x0_0 (DD X n) n v) n 0 a (List.replicate (Int.toNat (a.length : Int)) (ByteArray.empty, [], ())) (fun x hx => c_toLane hX (by omega) x (he x hx)) (by simp) (by rw [maxLen_def]; omega) (by omega) (by have := W_def; omega)
  rw [show ((0 : Nat) : Int) = 0 from rfl] at this
  rw [this]
  simp only [List.take_zero, List.drop_zero, List.nil_append, laws_toLaneS_x0_0]

theorem c_szLane {X : Ext} (hX : XOk X) {n : Nat} (hn : W + 2 ≤ n) (a : Lane) (k : Int) (ha : Wf LaneT a) (hk : 0 ≤ k ∧ k ≤ maxLen) : C_laws_szLane (DD X n) a k = some ((left LaneT a k, ()), ()) := by
  obtain ⟨n, rfl⟩ : ∃ k, n = k + 1 := ⟨n - 1, by omega⟩
  have hd := maxLen_def
  obtain ⟨w1, ⟨w2, w3⟩, -⟩ := ha
  have w1' : a.1.size ≤ maxLen := w1
  have w2' : a.2.1.length ≤ maxLen := w2
  have ht : tot LaneT a = a.1.size + (tot IntsT a.2.1 + 0) := rfl
  rw [tot_ints] at ht
  rw [S_laws_szLane hX]
  simp only [F_laws_szLane, laws_szLane_e]
  rw [wrap_id (by omega) (by omega)]
  by_cases h : k - (a.1.size : Int) < 0
  · rw [br_pos h, left_neg (by omega)]
  · rw [br_neg h, c_szIntS hX (by omega) _ _ w2' (by omega), bindD_some]
    have e2 := tot_ints a.2.1
    by_cases h2 : (tot IntsT a.2.1 : Int) ≤ k - a.1.size
    · rw [left_pos h2]; dsimp only
      rw [br_neg (by omega), left_pos (by omega)]
      congr 3; omega
    · rw [left_neg h2]; dsimp only
      rw [br_pos (by omega), left_neg (by omega)]
theorem szLaneS_L (D : Den ctx) (n : Nat) (K0 : Int → Int → Option ((Int × Unit) × Unit)) (K1 : Int → Option ((Int × Unit) × Unit)) (hK : ∀ k, K1 k = some ((k, ()), ())) (hK0 : ∀ k, K0 k (-1) = some ((-1, ()), ())) : ∀ (m i : Nat) (k : Int) (a : List Lane),
    (∀ x ∈ a, ∀ k : Int, 0 ≤ k → k ≤ maxLen → C_laws_szLane D x k = some ((left LaneT x k, ()), ())) → a.length ≤ maxLen → i ≤ a.length → a.length - i < m → 0 ≤ k → k ≤ maxLen →
    laws_szLaneS_L0 D n K0 K1 m a k i = some ((if (((a.drop i).map (tot LaneT)).sum : Int) ≤ k then k - ((a.drop i).map (tot LaneT)).sum else -1, ()), ())
  | 0, _, _, _, _, _, _, h, _, _ => by omega
  | m + 1, i, k, a, he, hm, hi, hf, h0, h1 => by
    simp only [laws_szLaneS_L0, laws_szLaneS_b0]
    have hd := maxLen_def
    by_cases h : i < a.length
    · rw [br_pos (by exact_mod_cast h), ix h, br_t, Int.toNat_natCast, getD_lt h, he _ (List.getElem_mem _) k h0 h1, bindD_some, wrap_succ (by omega), map_drop_sum h]
      by_cases h2 : left LaneT a[i] k < 0
      · rw [br_pos h2, hK0, if_neg]
        intro h3
        rw [left_pos (by omega)] at h2
        omega
      · obtain ⟨e1, e2⟩ := left_nonneg h2 h0
        rw [br_neg h2, e1]; dsimp only
        rw [szLaneS_L D n K0 K1 hK hK0 m (i + 1) _ a he hm (by omega) (by omega) (by omega) (by omega)]
        congr 3
        push_cast
        split <;> split <;> omega
    · rw [br_neg (by exact_mod_cast h), drop_end h, hK]
      simp [h0]
theorem c_szLaneS {X : Ext} (hX : XOk X) {n : Nat} (hn : W + 3 ≤ n) (a : List Lane) (k : Int) (ha : Wf (.sl LaneT) a) (hk : 0 ≤ k ∧ k ≤ maxLen) : C_laws_szLaneS (DD X n) a k = some ((left (.sl LaneT) a k, ()), ()) := by
  obtain ⟨n, rfl⟩ : ∃ k, n = k + 1 := ⟨n - 1, by omega⟩
  have hd := maxLen_def
  have w1 : a.length ≤ maxLen := ha.1
  have hts := tot_sl (t := LaneT) a
  rw [S_laws_szLaneS hX]
  simp only [F_laws_szLaneS, laws_szLaneS_e, laws_szLaneS_LP0]
  rw [wrap_id (by omega) (by omega)]
  by_cases h : k - (a.length : Int) < 0
  · rw [br_pos h, left_neg (by omega)]
  · rw [br_neg h]
    have := szLaneS_L (DD X n) n (fun v w => laws_szLaneS_x0_0 (DD X n) n v w) (fun v => laws_szLaneS_x0_1 (DD X n) n v) (fun _ => rfl) (fun _ => rfl) n 0 (k - a.length) a
      (fun x hx k h0 h1 => c_szLane hX (by omega) x k (ha.2 x hx) ⟨h0, h1⟩) w1 (by omega) (by have := W_def; omega) (by omega) (by omega)
    rw [show ((0 : Nat) : Int) = 0 from rfl] at this
    rw [this, List.drop_zero]
    by_cases h2 : (tot (.sl LaneT) a : Int) ≤ k
    · rw [left_pos h2, if_pos (by omega)]; congr 3; omega
    · rw [left_neg h2, if_neg (by omega)]

theorem markLaneS_L {X : Ext} (hX : XOk X) (N n : Nat) (hN : W + 1 ≤ N) (K : Int → List Lane → Option ((Int × Unit) × List Lane × Unit)) : ∀ (m i : Nat) (k : Int) (a : List Lane), a.length ≤ maxLen → i ≤ a.length → a.length - i < m → 0 ≤ k → k + ((a.drop i).map (cnt LaneT)).sum ≤ maxLen →
    laws_markLaneS_L0 (DD X N) n K m k i a = K (mkL (mkT LaneT) k (a.drop i)).1 (a.take i ++ (mkL (mkT LaneT) k (a.drop i)).2)
  | 0, _, _, _, _, _, h, _, _ => by omega
  | m + 1, i, k, a, hm, hi, hf, hk, hkl => by
    simp only [laws_markLaneS_L0, laws_markLaneS_b0]
    have hd := maxLen_def
    by_cases h : i < a.length
    · rw [map_drop_sum h] at hkl
      have hc : cnt LaneT a[i] = 1 + cnt IntsT a[i].2.1 := by simp only [cnt]; omega
      have hc1 := mkT_cnt IntsT (k + 1) a[i].2.1
      rw [br_pos (by exact_mod_cast h), c_markText hX hN k (by omega), bindD_some, ix h, br_t]
      simp only [List.length_set, Int.toNat_natCast, getD_set_same h, getD_lt h, List.set_set]
      rw [ix h, br_t, wrap_id (by omega) (by omega), m_markIntS hX hN _ _ (by omega) (by omega), bindD_some, wrap_succ (by omega)]
      simp only [decide_true, Bool.and_self, br_t]
      have e := markLaneS_L hX N n hN K m (i + 1) (mkT IntsT (k + 1) a[i].2.1).1 (a.set i (mtext k, (mkT IntsT (k + 1) a[i].2.1).2, a[i].2.2)) (by simpa using hm) (by simp; omega) (by simp; omega) (by omega) (by rw [List.drop_set_of_lt (by omega)]; omega)
      refine Eq.trans e ?_
      rw [take_set h, drop_cons h, List.drop_set_of_lt (by omega), List.append_assoc]
      rfl
    · rw [br_neg (by exact_mod_cast h), drop_end h, List.take_of_length_le (by omega)]
      simp only [mkL, List.append_nil]
theorem m_markLaneS {X : Ext} (hX : XOk X) {n : Nat} (hn : W + 2 ≤ n) (a : List Lane) (k : Int) (ha : a.length ≤ maxLen) (hk : 0 ≤ k) (h : k + cnt (.sl LaneT) a ≤ maxLen) :
    C_laws_markLaneS (DD X n) a k = some (((mkT (.sl LaneT) k a).1, ()), ((mkT (.sl LaneT) k a).2, ())) := by
  obtain ⟨n, rfl⟩ : ∃ k, n = k + 1 := ⟨n - 1, by omega⟩
  have hd := maxLen_def
  rw [S_laws_markLaneS hX]
  simp only [F_laws_markLaneS, laws_markLaneS_e, laws_markLaneS_LP0]
  have := markLaneS_L hX n n (by omega) (fun v w => laws_markLaneS_x0_0 (DD X n) n v w) n 0 k a ha (by omega) (by have := W_def; omega) hk (by rw [List.drop_zero]; exact h)
  rw [show ((0 : Nat) : Int) = 0 from rfl] at this
  rw [this]
  simp only [List.take_zero, List.drop_zero, List.nil_append, laws_markLaneS_x0_0, mkT]
theorem heldLaneS_L {X : Ext} (hX : XOk X) (N n : Nat) (hN : W + 1 ≤ N) (K0 : Int → Int → Option ((Int × Unit) × Unit)) (K1 : Int → Option ((Int × Unit) × Unit)) : ∀ (m i : Nat) (k : Int) (a l : List Lane), a.length ≤ maxLen → i ≤ a.length → a.length - i < m → 0 ≤ k → k + (l.map (cnt LaneT)).sum ≤ maxLen →
    a.drop i = (mkL (mkT LaneT) k l).2 → laws_heldLaneS_L0 (DD X N) n K0 K1 m a k i = K1 (mkL (mkT LaneT) k l).1
  | 0, _, _, _, _, _, _, h, _, _, _ => by omega
  | m + 1, i, k, a, l, hm, hi, hf, hk, hkl, hl => by
    simp only [laws_heldLaneS_L0, laws_heldLaneS_b0]
    have hd := maxLen_def
    by_cases h : i < a.length
    · rw [drop_cons h] at hl
      cases l with
      | nil => simp [mkL] at hl; omega
      | cons x l =>
        simp only [mkL, List.cons.injEq] at hl
        obtain ⟨hx, hl⟩ := hl
        simp only [List.map_cons, List.sum_cons] at hkl
        have hc : cnt LaneT x = 1 + cnt IntsT x.2.1 := by simp only [cnt]; omega
        have hc1 := mkT_cnt IntsT (k + 1) x.2.1
        have hx1 : a[i].1 = mtext k := by rw [hx]; rfl
        have hx2 : a[i].2.1 = (mkT IntsT (k + 1) x.2.1).2 := by rw [hx]; rfl
        rw [br_pos (by exact_mod_cast h), ix h, br_t, c_markText hX hN k (by omega), bindD_some, Int.toNat_natCast, getD_lt h, hx1, hx2, beq_bytes]
        simp only [decide_true, Bool.not_true, br_f, br_t]
        rw [wrap_id (by omega) (by omega), m_heldIntS hX hN _ _ (by omega) (by omega), bindD_some, wrap_succ (by omega)]; dsimp only
        rw [br_neg (by omega)]
        have e := heldLaneS_L hX N n hN K0 K1 m (i + 1) (mkT LaneT k x).1 a l hm (by omega) (by omega) (by rw [mkT_cnt]; omega) (by rw [mkT_cnt]; omega) hl
        exact e
    · rw [br_neg (by exact_mod_cast h)]
      rw [drop_end h] at hl
      cases l with
      | nil => rfl
      | cons x l => simp [mkL] at hl
theorem m_heldLaneS {X : Ext} (hX : XOk X) {n : Nat} (hn : W + 2 ≤ n) (a : List Lane) (k : Int) (ha : a.length ≤ maxLen) (hk : 0 ≤ k) (h : k + cnt (.sl LaneT) a ≤ maxLen) :
    C_laws_heldLaneS (DD X n) (mkT (.sl LaneT) k a).2 k = some (((mkT (.sl LaneT) k a).1, ()), ()) := by
  obtain ⟨n, rfl⟩ : ∃ k, n = k + 1 := ⟨n - 1, by omega⟩
  have hd := maxLen_def
  rw [S_laws_heldLaneS hX]
  simp only [F_laws_heldLaneS, laws_heldLaneS_e, laws_heldLaneS_LP0]
  have hml : (mkT (.sl LaneT) k a).2.length = a.length := mkL_len k a
  have := heldLaneS_L hX n n (by omega) (fun v w => laws_heldLaneS_x0_0 (DD X n) n v w) (fun v => laws_heldLaneS_x0_1 (DD X n) n v) n 0 k (mkT (.sl LaneT) k a).2 a (by omega) (by omega) (by have := W_def; omega) hk h (by simp [mkT])
  rw [show ((0 : Nat) : Int) = 0 from rfl] at this
  rw [this]
  simp only [laws_heldLaneS_x0_1, mkT]
end Go.G

/- B, part 4: the laws' helpers on lists with lanes. No condition. -/
namespace Go.G
set_option linter.unusedVariables false
set_option linter.unusedSimpArgs false
open Go Go.V

abbrev SkipT : Ty := .pair IntsT (.pair (.sl LaneT) .unit)
abbrev Skip := List Int × List Lane × Unit
theorem skip_eta (a : Skip) : (a.1, a.2.1, ()) = a := rfl
theorem tot_skip (a : Skip) : tot SkipT a = a.1.length + tot (.sl LaneT) a.2.1 := by
  have h : tot SkipT a = tot IntsT a.1 + (tot (.sl LaneT) a.2.1 + 0) := rfl
  rw [h, tot_ints]; rfl
theorem tot_lane (a : Lane) : tot LaneT a = a.1.size + a.2.1.length := by
  have h : tot LaneT a = a.1.size + (tot IntsT a.2.1 + 0) := rfl
  rw [h, tot_ints]; rfl
/-- rows of some size at most -/
def Small (b : Nat) (a : Skip) : Prop := a.1.length ≤ b ∧ a.2.1.length ≤ b ∧ ∀ x ∈ a.2.1, x.2.1.length ≤ b
theorem small_of {b : Nat} {a : Skip} (h : tot SkipT a ≤ b) : Small b a := by
  rw [tot_skip] at h
  refine ⟨by omega, by rw [tot_sl] at h; omega, fun x hx => ?_⟩
  have h1 := tot_mem (t := LaneT) hx
  rw [tot_lane] at h1
  omega
theorem Small.mono {b c : Nat} {a : Skip} (h : Small b a) (hb : b ≤ c) : Small c a := ⟨by have := h.1; omega, by have := h.2.1; omega, fun x hx => by have := h.2.2 x hx; omega⟩

theorem c_eqSkip {X : Ext} (hX : XOk X) {n : Nat} (hn : W + 4 ≤ n) (a b : Skip) (hb : Small maxLen b) : C_laws_eqSkip (DD X n) a b = some ((decide (a = b), ()), ()) := by
  obtain ⟨n, rfl⟩ : ∃ k, n = k + 1 := ⟨n - 1, by omega⟩
  rw [S_laws_eqSkip hX]
  simp only [F_laws_eqSkip, laws_eqSkip_e]
  rw [c_eqIntS hX (by omega) _ _ hb.1, bindD_some, c_eqLaneS hX (by omega) _ _ hb.2.1 hb.2.2]
  obtain ⟨a1, a2, ⟨⟩⟩ := a
  obtain ⟨b1, b2, ⟨⟩⟩ := b
  by_cases h1 : a1 = b1 <;> by_cases h2 : a2 = b2 <;> simp [h1, h2, br, bindD_some]
theorem c_toSkip {X : Ext} (hX : XOk X) {n : Nat} (hn : W + 4 ≤ n) (a : Skip) (ha : Small bound a) : C_laws_toSkip (DD X n) a = some ((a, ()), ()) := by
  obtain ⟨n, rfl⟩ : ∃ k, n = k + 1 := ⟨n - 1, by omega⟩
  rw [S_laws_toSkip hX]
  simp only [F_laws_toSkip, laws_toSkip_e]
  rw [c_toIntS hX (by omega) _ ha.1, bindD_some, c_toLaneS hX (by omega) _ ha.2.1 ha.2.2, bindD_some]
theorem c_szSkip {X : Ext} (hX : XOk X) {n : Nat} (hn : W + 4 ≤ n) (a : Skip) (k : Int) (ha : Wf SkipT a) (hk : 0 ≤ k ∧ k ≤ maxLen) : C_laws_szSkip (DD X n) a k = some ((left SkipT a k, ()), ()) := by
  obtain ⟨n, rfl⟩ : ∃ k, n = k + 1 := ⟨n - 1, by omega⟩
  have hd := maxLen_def
  obtain ⟨w1, w2, -⟩ := ha
  have w1' : a.1.length ≤ maxLen := w1.1
  have hl := tot_skip a
  have h1 := tot_ints a.1
  rw [S_laws_szSkip hX]
  simp only [F_laws_szSkip, laws_szSkip_e]
  rw [c_szIntS hX (by omega) _ _ w1' hk, bindD_some]; dsimp only
  by_cases h : left IntsT a.1 k < 0
  · rw [br_pos h, left_neg]
    intro h3
    rw [left_pos (by omega)] at h
    omega
  · obtain ⟨e1, e2⟩ := left_nonneg h hk.1
    rw [br_neg h, e1, c_szLaneS hX (by omega) _ _ w2 (by omega), bindD_some]; dsimp only
    by_cases h : left (.sl LaneT) a.2.1 (k - tot IntsT a.1) < 0
    · rw [br_pos h, left_neg]
      intro h3
      rw [left_pos (by omega)] at h
      omega
    · obtain ⟨e3, e4⟩ := left_nonneg h (by omega)
      rw [br_neg h, e3, left_pos (by omega)]
      congr 3; omega
/-- the rows of a list with lanes, marked -/
def markSkipP (k : Int) (a : Skip) : Int × Skip := ((mkT (.sl LaneT) (mkT IntsT k a.1).1 a.2.1).1, ((mkT IntsT k a.1).2, (mkT (.sl LaneT) (mkT IntsT k a.1).1 a.2.1).2, ()))
theorem m_markSkip {X : Ext} (hX : XOk X) {n : Nat} (hn : W + 3 ≤ n) (a : Skip) (k : Int) (ha : a.2.1.length ≤ maxLen) (hk : 0 ≤ k) (h : k + cnt IntsT a.1 + cnt (.sl LaneT) a.2.1 ≤ maxLen) :
    C_laws_markSkip (DD X n) a k = some (((markSkipP k a).1, ()), ((markSkipP k a).2, ())) := by
  obtain ⟨n, rfl⟩ : ∃ k, n = k + 1 := ⟨n - 1, by omega⟩
  have h1 := mkT_cnt IntsT k a.1
  rw [S_laws_markSkip hX]
  simp only [F_laws_markSkip, laws_markSkip_e]
  rw [m_markIntS hX (by omega) _ _ hk (by omega), bindD_some]; dsimp only
  rw [m_markLaneS hX (by omega) _ _ ha (by omega) (by omega), bindD_some]
  rfl
theorem m_heldSkip {X : Ext} (hX : XOk X) {n : Nat} (hn : W + 3 ≤ n) (a : Skip) (k : Int) (ha : a.2.1.length ≤ maxLen) (hk : 0 ≤ k) (h : k + cnt IntsT a.1 + cnt (.sl LaneT) a.2.1 ≤ maxLen) :
    C_laws_heldSkip (DD X n) (markSkipP k a).2 k = some (((markSkipP k a).1, ()), ()) := by
  obtain ⟨n, rfl⟩ : ∃ k, n = k + 1 := ⟨n - 1, by omega⟩
  have h1 := mkT_cnt IntsT k a.1
  have h2 := mkT_cnt (.sl LaneT) (mkT IntsT k a.1).1 a.2.1
  rw [S_laws_heldSkip hX]
  simp only [F_laws_heldSkip, laws_heldSkip_e, markSkipP]
  rw [m_heldIntS hX (by omega) _ _ hk (by omega), bindD_some]; dsimp only
  rw [br_neg (by omega), m_heldLaneS hX (by omega) _ _ ha (by omega) (by omega), bindD_some]; dsimp only
  rw [br_neg (by omega)]
theorem markSkip_pos (a : Skip) (k : Int) (hk : 0 < k) : ¬ (markSkipP k a).1 < 0 := by
  have h1 := mkT_cnt IntsT k a.1
  have h2 := mkT_cnt (.sl LaneT) (mkT IntsT k a.1).1 a.2.1
  simp only [markSkipP]
  omega
/-- how many marks a list of some size bears -/
theorem cnt_small {b : Nat} {a : Skip} (h : Small b a) : cnt IntsT a.1 + cnt (.sl LaneT) a.2.1 ≤ b + b * (b + 1) := by
  have h1 : ∀ l : List Lane, (∀ x ∈ l, x.2.1.length ≤ b) → cnt (.sl LaneT) l ≤ l.length * (b + 1) := by
    intro l
    induction l with
    | nil => intro _; simp [cnt]
    | cons x l ih =>
      intro hx
      have e : cnt LaneT x = 1 + (cnt IntsT x.2.1 + 0) := rfl
      have h2 := ih (fun y hy => hx y (List.mem_cons_of_mem _ hy))
      have h3 := hx x (List.mem_cons_self ..)
      rw [cnt_ints] at e
      rw [cnt_sl] at h2 ⊢
      rw [List.map_cons, List.sum_cons, e, List.length_cons, Nat.add_mul]
      omega
  have h2 := h1 _ h.2.2
  have h3 := Nat.mul_le_mul_right (b + 1) h.2.1
  rw [cnt_ints]
  have := h.1
  omega
end Go.G

/- The row FnExactSkipNew holds: the law returns true. No condition. -/
namespace Go.G
set_option linter.unusedVariables false
set_option maxRecDepth 100000
open Go Go.V Go.Proofs

def newSkip : Skip := ([-1, -1, -1, -1], [], ())
theorem c_implSkipNew {X : Ext} (hX : XOk X) {n : Nat} (hn : 1 ≤ n) : C_impl_SkipNew (DD X n) = some ((newSkip, ()), ()) := by
  obtain ⟨n, rfl⟩ : ∃ k, n = k + 1 := ⟨n - 1, by omega⟩
  rw [S_impl_SkipNew hX]; rfl
theorem c_specSkipNew {X : Ext} (hX : XOk X) {n : Nat} (hn : 1 ≤ n) : C_spec_SkipNew (DD X n) = some ((newSkip, ()), ()) := by
  obtain ⟨n, rfl⟩ : ∃ k, n = k + 1 := ⟨n - 1, by omega⟩
  rw [S_spec_SkipNew hX]; rfl
theorem newSmall : Small 4 newSkip := ⟨by decide, by decide, fun x hx => by simp [newSkip] at hx⟩
theorem fnExactSkipNew_law : C_laws_FnExactSkipNew (DD noExt (W + 5)) = some ((true, ()), ()) := by
  have hX := noExt_ok
  have hd := maxLen_def
  have hc := cnt_small newSmall
  have e1 := c_specSkipNew hX (n := W + 4) (by omega)
  have e2 := c_implSkipNew hX (n := W + 4) (by omega)
  have e3 := c_eqSkip hX (n := W + 4) (by omega) newSkip newSkip (newSmall.mono (by omega))
  have e4 := m_markSkip hX (n := W + 4) (by omega) newSkip 1 (by decide) (by omega) (by omega)
  have e5 := m_heldSkip hX (n := W + 4) (by omega) newSkip 1 (by decide) (by omega) (by omega)
  have hp := decide_eq_false (markSkip_pos newSkip 1 (by omega))
  rw [S_laws_FnExactSkipNew hX]
  simp only [F_laws_FnExactSkipNew, laws_FnExactSkipNew_e, skip_eta, e1, e2, e3, e4, e5, hp, bindD_some, decide_true, Bool.not_true, br_f, bne_self_eq_false]
end Go.G
namespace Go.Proofs.Ytjjcilkcffigeaa
open Go.ChangeShapes Go.WideShapes Go.ChangeAt Go.RowKit Go.V Go.G
set_option maxRecDepth 100000
theorem fnExactSkipNew_lifted (os : Os) (started : os.Started) (H : Type) (enc : TypeId × Value → H) :
    ReturnsInHanded {} Try.checked os 5 .any (Rows.fnExactSkipNewSpec.pre6 enc Try.prog Try.f5 Rows.fnExactSkipNewRow.domain false) (Rows.fnExactSkipNewSpec.post enc Try.prog Try.f5 false true false false) :=
  lifted_of (X := noExt) (tb := 4) started Try.func5 (by kernel_rfl)
    (ChangeSpec.witness6 (enc := enc) (C := Try.checked) false ⟨#[], Try.f5.params.map fun t => ((Try.prog.info? t).bind (·.zero)).getD .nilIface, []⟩ 8 (by kernel_rfl) (by kernel_rfl) (by kernel_rfl) (by kernel_rfl))
    trivial (by kernel_rfl) (by kernel_rfl) (by kernel_rfl) rfl
    (fun ds h => by
      match ds, h with
      | [], _ => exact ⟨rfl, rfl, rfl⟩)
    (fun a wa => ⟨W + 5, ((true, ()), ()), fnExactSkipNew_law, fun h Pr Gs us k => by
      obtain ⟨v, vs, rfl, ⟨c, r, rfl⟩, e⟩ := k
      obtain rfl : vs = [] := e
      simp only [Rep] at r
      subst r
      rfl⟩)
theorem fnExactSkipNew_holds : Rows.FnExactSkipNewSaid :=
  OpenClaim.holds_of_wide 5 Try.f5 rfl rfl rfl rfl rfl rfl rfl ⟨rfl, rfl, rfl, rfl, rfl⟩ rfl rfl rfl rfl rfl (by kernel_rfl) Try.func5 (by kernel_rfl)
    (of_decide_eq_true (by kernel_rfl)) (by unfold Func.isWrapper; first | (rw [if_pos (by decide +kernel)]; kernel_rfl) | (rw [if_neg (by decide +kernel)]; exact ⟨rfl, rfl⟩))
    (fun os started H enc _ => fnExactSkipNew_lifted os started H enc)
#print axioms fnExactSkipNew_holds
end Go.Proofs.Ytjjcilkcffigeaa


/- The row FnExactWayDel holds: for all arguments the law returns true and the arguments read as before. No condition. -/
import Derived.Test.YtjjcilkcffigeaaAPFnExactWayDel0
/- B, part 0: plain laws for the printed functions. No condition. -/
namespace Go.G
set_option linter.unusedVariables false
open Go Go.V

theorem br_t {R : Type} {a b : Option R} : br true a b = a := rfl
theorem br_f {R : Type} {a b : Option R} : br false a b = b := rfl
theorem br_pos {R : Type} {a b : Option R} {p : Prop} [Decidable p] (h : p) : br (decide p) a b = a := by simp [br, h]
theorem br_neg {R : Type} {a b : Option R} {p : Prop} [Decidable p] (h : ¬ p) : br (decide p) a b = b := by simp [br, h]
theorem bindD_some {α R : Type} {a : α} {f : α → Option R} : bindD (some a) f = f a := rfl
theorem br_same {R : Type} {c : Bool} {a : Option R} : br c a a = a := by cases c <;> rfl
theorem br_ite {R : Type} {c : Bool} {a b : Option R} : br c a b = if c = true then a else b := by cases c <;> rfl
theorem wrap_form (x : Int) : IntKind.wrap IntKind.i64 x = if x % 18446744073709551616 ≥ 9223372036854775808 then x % 18446744073709551616 - 18446744073709551616 else x % 18446744073709551616 := by
  by_cases h : x % 18446744073709551616 ≥ 9223372036854775808 <;> simp [IntKind.wrap, IntKind.signed, IntKind.bits, h]
theorem wrap_id {x : Int} (h1 : -9223372036854775808 ≤ x) (h2 : x ≤ 9223372036854775807) : IntKind.wrap IntKind.i64 x = x := by
  rw [wrap_form]
  split <;> omega
theorem wrap_lo (x : Int) : -9223372036854775808 ≤ IntKind.wrap IntKind.i64 x ∧ IntKind.wrap IntKind.i64 x ≤ 9223372036854775807 := by
  rw [wrap_form]
  split <;> omega

/-- rounds enough for every loop -/
def W : Nat := 9223372036854775808
theorem W_def : W = 9223372036854775808 := rfl
theorem maxLen_def : maxLen = 9223372036854775807 := rfl
theorem bound_def : bound = 274877906944 := rfl

theorem ix {α : Type} {l : List α} {i : Nat} (h : i < l.length) : (decide (0 ≤ (i : Int)) && decide ((i : Int) < (l.length : Int))) = true := by
  simp only [Bool.and_eq_true, decide_eq_true_eq]; omega
theorem ixn {α : Type} {l : List α} {i : Int} (h0 : 0 ≤ i) (h : i < l.length) : (decide (0 ≤ i) && decide (i < (l.length : Int))) = true := by
  simp only [Bool.and_eq_true, decide_eq_true_eq]; omega
theorem wrap_succ {i : Nat} (h : i < 9223372036854775807) : IntKind.wrap IntKind.i64 ((i : Int) + 1) = ((i + 1 : Nat) : Int) := by
  rw [wrap_id] <;> omega
theorem getD_lt {α : Type} {l : List α} {i : Nat} {d : α} (h : i < l.length) : l.getD i d = l[i] := by
  simp [List.getD, h]
theorem drop_cons {α : Type} {l : List α} {i : Nat} (h : i < l.length) : l.drop i = l[i] :: l.drop (i + 1) := List.drop_eq_getElem_cons h
theorem drop_end {α : Type} {l : List α} {i : Nat} (h : ¬ i < l.length) : l.drop i = [] := List.drop_eq_nil_of_le (by omega)

/-- how much a value bears -/
def tot : (t : Ty) → t.den → Nat
  | .unit, _ => 0
  | .int _, _ => 0
  | .bool, _ => 0
  | .str, s => s.size
  | .sl t, xs => xs.length + (xs.map (tot t)).sum
  | .pair a b, x => tot a x.1 + tot b x.2
/-- what a size law tells -/
def left (t : Ty) (a : t.den) (k : Int) : Int := if (tot t a : Int) ≤ k then k - tot t a else -1

theorem sum_drop {l : List Nat} {i : Nat} (h : i < l.length) : (l.drop i).sum = l[i] + (l.drop (i + 1)).sum := by
  rw [drop_cons h, List.sum_cons]
theorem map_drop_sum {α : Type} {f : α → Nat} {l : List α} {i : Nat} (h : i < l.length) : ((l.drop i).map f).sum = f l[i] + ((l.drop (i + 1)).map f).sum := by
  rw [drop_cons h, List.map_cons, List.sum_cons]
theorem tot_mem {t : Ty} : ∀ {xs : List t.den} {x : t.den}, x ∈ xs → tot t x + xs.length ≤ tot (.sl t) xs
  | y :: xs, x, h => by
    simp only [tot, List.length_cons, List.map_cons, List.sum_cons]
    rcases List.mem_cons.1 h with rfl | h
    · have : xs.length ≤ xs.length + (xs.map (tot t)).sum := by omega
      omega
    · have := tot_mem h
      simp only [tot] at this
      omega
theorem beq_bytes {a b : ByteArray} : List.beq a.toList b.toList = decide (a = b) := by
  have h1 : List.beq a.toList b.toList = decide (a.toList = b.toList) := by
    have : (a.toList == b.toList) = decide (a.toList = b.toList) := by
      by_cases h : a.toList = b.toList <;> simp [h]
    exact this
  rw [h1]
  by_cases h : a = b
  · simp [h]
  · have : a.toList ≠ b.toList := fun e => h (by
      have h2 : a.data.toList = b.data.toList := by
        have := e
        simpa [ByteArray.toList_eq] using this
      cases a; cases b
      simp only [ByteArray.mk.injEq]
      exact Array.toList_inj.1 h2)
    simp [h, this]
end Go.G

/- B, part 1: the laws' helpers on numbers' rows: sizes, copies, comparisons, marks. No condition. -/
namespace Go.G
set_option linter.unusedVariables false
set_option linter.unusedSimpArgs false
open Go Go.V

abbrev IntsT : Ty := .sl (.int .i64)
theorem tot_ints (a : List Int) : tot IntsT a = a.length := by
  have : ∀ l : List Int, (l.map fun _ => 0).sum = 0 := by
    intro l; induction l with
    | nil => rfl
    | cons x l ih => simp [ih]
  have e : (a.map (tot (.int .i64))) = a.map fun _ => 0 := by
    apply List.map_congr_left; intro x _; simp only [tot]
  show a.length + (a.map (tot (.int .i64))).sum = a.length
  rw [e, this]; omega

theorem take_set {α : Type} {l : List α} {i : Nat} {x : α} (h : i < l.length) : (l.set i x).take (i + 1) = l.take i ++ [x] := by
  rw [List.take_add_one, List.take_set_of_le (Nat.le_refl _)]
  simp [List.getElem?_set, h]
theorem eqIntS_L (D : Den ctx) (n : Nat) (K0 : Bool → Option ((Bool × Unit) × Unit)) (K1 : Option ((Bool × Unit) × Unit)) : ∀ (m i : Nat) (a b : List Int), a.length = b.length → a.length ≤ maxLen → i ≤ a.length → a.length - i < m →
    laws_eqIntS_L0 D n K0 K1 m a b i = if a.drop i = b.drop i then K1 else K0 false
  | 0, _, _, _, _, _, _, h => by omega
  | m + 1, i, a, b, hl, hm, hi, hk => by
    simp only [laws_eqIntS_L0, laws_eqIntS_b0]
    rw [maxLen_def] at hm
    by_cases h : i < a.length
    · rw [br_pos (by exact_mod_cast h), ix h, br_t, ix (hl ▸ h), br_t, wrap_succ (by omega), Int.toNat_natCast, getD_lt h, getD_lt (hl ▸ h), drop_cons h, drop_cons (hl ▸ h : i < b.length)]
      by_cases e : a[i] = b[i]'(hl ▸ h)
      · rw [e]
        simp only [bne_self_eq_false, br_f, List.cons.injEq, true_and]
        exact eqIntS_L D n K0 K1 m (i + 1) a b hl (by rw [maxLen_def]; omega) (by omega) (by omega)
      · have : (a[i] != b[i]'(hl ▸ h)) = true := by simp [e]
        rw [this, br_t]; simp only [List.cons.injEq, e, false_and, if_false]
    · rw [br_neg (by exact_mod_cast h), drop_end h, drop_end (hl ▸ h)]; rfl

theorem c_eqIntS {X : Ext} (hX : XOk X) {n : Nat} (hn : W + 1 ≤ n) (a b : List Int) (hb : b.length ≤ maxLen) : C_laws_eqIntS (DD X n) a b = some ((decide (a = b), ()), ()) := by
  obtain ⟨n, rfl⟩ : ∃ k, n = k + 1 := ⟨n - 1, by omega⟩
  rw [S_laws_eqIntS hX]
  simp only [F_laws_eqIntS, laws_eqIntS_e, laws_eqIntS_LP0]
  by_cases h : a.length = b.length
  · have e : ((a.length : Int) != (b.length : Int)) = false := by simp [h]
    rw [e, br_f]
    have := eqIntS_L (DD X n) n (fun v => laws_eqIntS_x0_0 (DD X n) n v) (laws_eqIntS_x0_1 (DD X n) n) n 0 a b h (by omega) (by omega) (by have := W_def; have := maxLen_def; omega)
    rw [show ((0 : Nat) : Int) = 0 from rfl] at this
    rw [this]
    simp only [List.drop_zero, laws_eqIntS_x0_0, laws_eqIntS_x0_1]
    by_cases h : a = b <;> simp [h]
  · have e : ((a.length : Int) != (b.length : Int)) = true := by simp; omega
    have : a ≠ b := fun h2 => h (by rw [h2])
    rw [e, br_t]; simp [this]

theorem toIntS_L (D : Den ctx) (n : Nat) (K : List Int → Option ((List Int × Unit) × Unit)) : ∀ (m i : Nat) (a c : List Int), a.length = c.length → a.length ≤ maxLen → i ≤ a.length → a.length - i < m →
    laws_toIntS_L0 D n K m a i c = K (c.take i ++ a.drop i)
  | 0, _, _, _, _, _, _, h => by omega
  | m + 1, i, a, c, hl, hm, hi, hk => by
    simp only [laws_toIntS_L0, laws_toIntS_b0]
    rw [maxLen_def] at hm
    by_cases h : i < a.length
    · rw [br_pos (by exact_mod_cast h), ix h, br_t, ix (hl ▸ h), br_t, wrap_succ (by omega), Int.toNat_natCast, getD_lt h, toIntS_L D n K m (i + 1) a _ (by simp [hl]) (by rw [maxLen_def]; omega) (by omega) (by omega)]
      congr 1
      rw [drop_cons h, take_set (hl ▸ h), List.append_assoc]; rfl
    · rw [br_neg (by exact_mod_cast h), drop_end h, List.take_of_length_le (by omega), List.append_nil]

theorem to_cond {a : Nat} (h : a ≤ bound) : (decide (0 ≤ (a : Int)) && decide ((a : Int) ≤ (a : Int)) && decide ((a : Int) ≤ ((bound : Nat) : Int))) = true := by
  simp only [Bool.and_eq_true, decide_eq_true_eq]; omega
theorem c_toIntS {X : Ext} (hX : XOk X) {n : Nat} (hn : W + 1 ≤ n) (a : List Int) (ha : a.length ≤ bound) : C_laws_toIntS (DD X n) a = some ((a, ()), ()) := by
  obtain ⟨n, rfl⟩ : ∃ k, n = k + 1 := ⟨n - 1, by omega⟩
  rw [S_laws_toIntS hX]
  simp only [F_laws_toIntS, laws_toIntS_e, laws_toIntS_LP0]
  rw [to_cond ha, br_t]
  have h1 := bound_def
  have := toIntS_L (DD X n) n (fun v => laws_toIntS_x0_0 (DD X n) n v) n 0 a (List.replicate (Int.toNat (a.length : Int)) 0) (by simp) (by rw [maxLen_def]; omega) (by omega) (by have := W_def; omega)
  rw [show ((0 : Nat) : Int) = 0 from rfl] at this
  rw [this]
  simp only [List.take_zero, List.drop_zero, List.nil_append, laws_toIntS_x0_0]

theorem c_szIntS {X : Ext} (hX : XOk X) {n : Nat} (hn : W + 1 ≤ n) (a : List Int) (k : Int) (ha : a.length ≤ maxLen) (hk : 0 ≤ k ∧ k ≤ maxLen) : C_laws_szIntS (DD X n) a k = some ((left IntsT a k, ()), ()) := by
  obtain ⟨n, rfl⟩ : ∃ k, n = k + 1 := ⟨n - 1, by omega⟩
  rw [maxLen_def] at ha hk
  rw [S_laws_szIntS hX]
  simp only [F_laws_szIntS, laws_szIntS_e, left, tot_ints]
  rw [wrap_id (by omega) (by omega)]
  by_cases h : k - (a.length : Int) < 0
  · rw [br_pos h, if_neg (by omega)]
  · rw [br_neg h, if_pos (by omega)]

/-- marks: numbers from k on -/
def markInts : Int → List Int → List Int
  | _, [] => []
  | k, _ :: l => k :: markInts (k + 1) l
theorem markInts_len : ∀ (l : List Int) (k : Int), (markInts k l).length = l.length
  | [], _ => rfl
  | _ :: l, k => by simp [markInts, markInts_len l]
theorem markIntS_L (D : Den ctx) (n : Nat) (K : Int → List Int → Option ((Int × Unit) × List Int × Unit)) : ∀ (m i : Nat) (k : Int) (a : List Int), a.length ≤ maxLen → i ≤ a.length → a.length - i < m → 0 ≤ k → k + (a.length - i) ≤ maxLen →
    laws_markIntS_L0 D n K m k i a = K (k + (a.length - i)) (a.take i ++ markInts k (a.drop i))
  | 0, _, _, _, _, _, h, _, _ => by omega
  | m + 1, i, k, a, hm, hi, hf, hk, hkl => by
    simp only [laws_markIntS_L0, laws_markIntS_b0]
    have hd := maxLen_def
    by_cases h : i < a.length
    · rw [br_pos (by exact_mod_cast h), ix h, br_t, wrap_succ (by omega), wrap_id (by omega) (by omega), Int.toNat_natCast]
      rw [markIntS_L D n K m (i + 1) (k + 1) _ (by simpa using hm) (by simp; omega) (by simp; omega) (by omega) (by simp only [List.length_set]; omega), take_set h, drop_cons h, List.drop_set_of_lt (by omega)]
      simp only [List.length_set, List.append_assoc, markInts, List.singleton_append]
      congr 1
      omega
    · rw [br_neg (by exact_mod_cast h), drop_end h, List.take_of_length_le (by omega)]
      simp only [markInts, List.append_nil]
      congr 1
      omega
theorem c_markIntS {X : Ext} (hX : XOk X) {n : Nat} (hn : W + 1 ≤ n) (a : List Int) (k : Int) (hk : 0 ≤ k) (h : k + a.length ≤ maxLen) : C_laws_markIntS (DD X n) a k = some ((k + a.length, ()), (markInts k a, ())) := by
  obtain ⟨n, rfl⟩ : ∃ k, n = k + 1 := ⟨n - 1, by omega⟩
  have hd := maxLen_def
  rw [S_laws_markIntS hX]
  simp only [F_laws_markIntS, laws_markIntS_e, laws_markIntS_LP0]
  have := markIntS_L (DD X n) n (fun v w => laws_markIntS_x0_0 (DD X n) n v w) n 0 k a (by omega) (by omega) (by have := W_def; omega) hk (by omega)
  rw [show ((0 : Nat) : Int) = 0 from rfl] at this
  rw [this]
  simp only [List.take_zero, List.drop_zero, List.nil_append, laws_markIntS_x0_0, Int.sub_zero]
theorem heldIntS_L (D : Den ctx) (n : Nat) (K0 : Int → Int → Option ((Int × Unit) × Unit)) (K1 : Int → Option ((Int × Unit) × Unit)) : ∀ (m i : Nat) (k k0 : Int) (a l : List Int), a.length ≤ maxLen → i ≤ a.length → a.length - i < m → 0 ≤ k → k + (a.length - i) ≤ maxLen →
    a.drop i = markInts k l → laws_heldIntS_L0 D n K0 K1 m a k i = K1 (k + (a.length - i))
  | 0, _, _, _, _, _, _, _, h, _, _, _ => by omega
  | m + 1, i, k, k0, a, l, hm, hi, hf, hk, hkl, hl => by
    simp only [laws_heldIntS_L0, laws_heldIntS_b0]
    have hd := maxLen_def
    by_cases h : i < a.length
    · rw [br_pos (by exact_mod_cast h), ix h, br_t, wrap_succ (by omega), wrap_id (by omega) (by omega), Int.toNat_natCast, getD_lt h]
      rw [drop_cons h] at hl
      cases l with
      | nil => simp [markInts] at hl; omega
      | cons x l =>
        simp only [markInts, List.cons.injEq] at hl
        rw [hl.1, bne_self_eq_false, br_f]
        rw [heldIntS_L D n K0 K1 m (i + 1) (k + 1) k0 a l hm (by omega) (by omega) (by omega) (by omega) hl.2]
        congr 1
        omega
    · rw [br_neg (by exact_mod_cast h)]
      congr 1
      omega
theorem c_heldIntS {X : Ext} (hX : XOk X) {n : Nat} (hn : W + 1 ≤ n) (a : List Int) (k : Int) (hk : 0 ≤ k) (h : k + a.length ≤ maxLen) : C_laws_heldIntS (DD X n) (markInts k a) k = some ((k + a.length, ()), ()) := by
  obtain ⟨n, rfl⟩ : ∃ k, n = k + 1 := ⟨n - 1, by omega⟩
  have hd := maxLen_def
  rw [S_laws_heldIntS hX]
  simp only [F_laws_heldIntS, laws_heldIntS_e, laws_heldIntS_LP0]
  have hml := markInts_len a k
  have := heldIntS_L (DD X n) n (fun v w => laws_heldIntS_x0_0 (DD X n) n v w) (fun v => laws_heldIntS_x0_1 (DD X n) n v) n 0 k k (markInts k a) a (by omega) (by omega) (by have := W_def; omega) hk (by omega) (by simp)
  rw [show ((0 : Nat) : Int) = 0 from rfl] at this
  rw [this]
  simp only [laws_heldIntS_x0_1, Int.sub_zero, hml]

/-! marks of strings -/
def mdigit (x : Int) : ByteArray := ByteArray.mk (List.toArray (List.map (fun n ↦ UInt8.ofNat (Int.toNat n)) [IntKind.wrap IntKind.u8 (IntKind.wrap IntKind.i64 (48 + Int.tmod x 10))]))
def mdigits : Nat → Int → ByteArray → ByteArray
  | 0, _, s => s
  | f + 1, x, s => if x > 0 then mdigits f (Int.tdiv x 10) (ByteArray.append (mdigit x) s) else s
def mtext (k : Int) : ByteArray := if k ≤ 0 then ByteArray.mk #[UInt8.ofNat 109, UInt8.ofNat 48] else ByteArray.append (ByteArray.mk #[UInt8.ofNat 109]) (mdigits 19 k (ByteArray.mk #[]))
theorem append_size (a b : ByteArray) : (ByteArray.append a b).size = a.size + b.size := ByteArray.size_append
theorem mdigit_size (x : Int) : (mdigit x).size = 1 := rfl
theorem mdigits_size : ∀ (f : Nat) (x : Int) (s : ByteArray), (mdigits f x s).size ≤ s.size + f
  | 0, _, s => by simp [mdigits]
  | f + 1, x, s => by
    simp only [mdigits]
    split
    · have := mdigits_size f (Int.tdiv x 10) (ByteArray.append (mdigit x) s)
      rw [append_size, mdigit_size] at this
      omega
    · omega
theorem markText_L (D : Den ctx) (n : Nat) (K : ByteArray → Option ((ByteArray × Unit) × Unit)) : ∀ (f m : Nat) (x : Int) (s : ByteArray), f < m → 0 ≤ x → x < 10 ^ f → x ≤ maxLen → s.size + f ≤ 2 ^ 47 → laws_markText_L0 D n K m x s = K (mdigits f x s)
  | f, 0, _, _, h, _, _, _, _ => by omega
  | 0, m + 1, x, s, _, h0, hx, _, _ => by
    simp only [laws_markText_L0, laws_markText_b0, mdigits]
    rw [br_neg (by simp at hx; omega)]
  | f + 1, m + 1, x, s, hf, h0, hx, hm, hs => by
    simp only [laws_markText_L0, laws_markText_b0, mdigits]
    have hd := maxLen_def
    by_cases h : x > 0
    · rw [br_pos h, if_pos h, br_pos (by show (mdigit x).size + s.size ≤ Nat.pow 2 47; rw [mdigit_size]; show 1 + s.size ≤ 2 ^ 47; omega)]
      have e : Int.tdiv x 10 = x / 10 := Int.tdiv_eq_ediv_of_nonneg h0
      rw [wrap_id (by rw [e]; omega) (by rw [e]; omega)]
      refine markText_L D n K f m _ _ (by omega) (by rw [e]; omega) ?_ (by rw [e]; omega) ?_
      · rw [e]
        have : (10 : Int) ^ (f + 1) = 10 ^ f * 10 := Int.pow_succ ..
        omega
      · show (ByteArray.append (mdigit x) s).size + f ≤ 2 ^ 47
        rw [append_size, mdigit_size]; omega
    · rw [br_neg h, if_neg h]
theorem c_markText {X : Ext} (hX : XOk X) {n : Nat} (hn : W + 1 ≤ n) (k : Int) (hk : k ≤ maxLen) : C_laws_markText (DD X n) k = some ((mtext k, ()), ()) := by
  obtain ⟨n, rfl⟩ : ∃ k, n = k + 1 := ⟨n - 1, by omega⟩
  have hd := maxLen_def
  rw [S_laws_markText hX]
  simp only [F_laws_markText, laws_markText_e, laws_markText_LP0, mtext]
  by_cases h : k ≤ 0
  · rw [br_pos h, if_pos h]
  · rw [br_neg h, if_neg h, markText_L (DD X n) n _ 19 n k _ (by have := W_def; omega) (by omega) (by omega) hk (by show 0 + 19 ≤ 2 ^ 47; decide)]
    simp only [laws_markText_x0_0]
    have h1 := mdigits_size 19 k (ByteArray.mk #[])
    have h2 : (ByteArray.mk #[]).size = 0 := rfl
    rw [br_pos]
    show 1 + (mdigits 19 k (ByteArray.mk #[])).size ≤ 2 ^ 47
    omega
end Go.G

/- B, part 2: the laws' helpers: what they share. No condition. -/
namespace Go.G
set_option linter.unusedVariables false
set_option linter.unusedSimpArgs false
open Go Go.V

/-- marks, one behind another -/
def mkL {α : Type} (f : Int → α → Int × α) : Int → List α → Int × List α
  | k, [] => (k, [])
  | k, x :: l => ((mkL f (f k x).1 l).1, (f k x).2 :: (mkL f (f k x).1 l).2)
def mkT : (t : Ty) → Int → t.den → Int × t.den
  | .unit, k, x => (k, x)
  | .int _, k, _ => (k + 1, k)
  | .bool, k, _ => (k + 1, decide (Int.tmod k 3 = 0))
  | .str, k, _ => (k + 1, mtext k)
  | .sl t, k, xs => mkL (mkT t) k xs
  | .pair a b, k, x => ((mkT b (mkT a k x.1).1 x.2).1, ((mkT a k x.1).2, (mkT b (mkT a k x.1).1 x.2).2))
/-- how many they are -/
def cnt : (t : Ty) → t.den → Nat
  | .unit, _ => 0
  | .int _, _ => 1
  | .bool, _ => 1
  | .str, _ => 1
  | .sl t, xs => (xs.map (cnt t)).sum
  | .pair a b, x => cnt a x.1 + cnt b x.2
theorem mkL_cnt {t : Ty} (h : ∀ k x, (mkT t k x).1 = k + cnt t x) : ∀ (k : Int) (xs : List t.den), (mkL (mkT t) k xs).1 = k + ((xs.map (cnt t)).sum : Nat)
  | k, [] => by simp [mkL]
  | k, x :: l => by
    simp only [mkL, mkL_cnt h, h, List.map_cons, List.sum_cons]
    omega
theorem mkT_cnt : ∀ (t : Ty) (k : Int) (x : t.den), (mkT t k x).1 = k + cnt t x
  | .unit, k, x => by simp [mkT, cnt]
  | .int _, k, _ => by simp [mkT, cnt]
  | .bool, k, _ => by simp [mkT, cnt]
  | .str, k, _ => by simp [mkT, cnt]
  | .sl t, k, xs => by simp only [mkT, cnt]; exact mkL_cnt (mkT_cnt t) k xs
  | .pair a b, k, x => by simp only [mkT, cnt, mkT_cnt a, mkT_cnt b]; omega
theorem mkL_len {α : Type} {f : Int → α → Int × α} : ∀ (k : Int) (xs : List α), (mkL f k xs).2.length = xs.length
  | _, [] => rfl
  | k, x :: l => by simp [mkL, mkL_len]
theorem cnt_mem {t : Ty} : ∀ {xs : List t.den} {i : Nat} (h : i < xs.length), cnt t xs[i] + ((xs.drop (i + 1)).map (cnt t)).sum = ((xs.drop i).map (cnt t)).sum := by
  intro xs i h; rw [map_drop_sum h]

theorem tot_sl {t : Ty} (a : List t.den) : tot (.sl t) a = a.length + (a.map (tot t)).sum := rfl
theorem cnt_sl {t : Ty} (a : List t.den) : cnt (.sl t) a = (a.map (cnt t)).sum := rfl
theorem left_pos {t : Ty} {a : t.den} {k : Int} (h : (tot t a : Int) ≤ k) : left t a k = k - tot t a := if_pos h
theorem left_neg {t : Ty} {a : t.den} {k : Int} (h : ¬ (tot t a : Int) ≤ k) : left t a k = -1 := if_neg h
theorem left_nonneg {t : Ty} {a : t.den} {k : Int} (h : ¬ left t a k < 0) (hk : 0 ≤ k) : left t a k = k - tot t a ∧ (tot t a : Int) ≤ k := by
  unfold left at h ⊢
  split at h
  · rename_i h1; rw [if_pos h1]; exact ⟨rfl, h1⟩
  · omega
theorem getD_set_same {α : Type} {l : List α} {i : Nat} {x d : α} (h : i < l.length) : (l.set i x).getD i d = x := by
  simp [List.getD, h]
theorem markInts_mk : ∀ (k : Int) (a : List Int), mkT IntsT k a = (k + a.length, markInts k a)
  | k, [] => by simp [mkT, mkL, markInts]
  | k, x :: a => by
    have := markInts_mk (k + 1) a
    simp only [mkT] at this
    simp only [mkT, mkL, markInts, this, List.length_cons]
    congr 1
    omega
theorem cnt_ints (a : List Int) : cnt IntsT a = a.length := by
  have h1 := mkT_cnt IntsT 0 a
  rw [markInts_mk] at h1
  simp only at h1
  omega
theorem m_markIntS {X : Ext} (hX : XOk X) {n : Nat} (hn : W + 1 ≤ n) (a : List Int) (k : Int) (hk : 0 ≤ k) (h : k + cnt IntsT a ≤ maxLen) : C_laws_markIntS (DD X n) a k = some (((mkT IntsT k a).1, ()), ((mkT IntsT k a).2, ())) := by
  rw [markInts_mk]; rw [cnt_ints] at h; exact c_markIntS hX hn a k hk h
theorem m_heldIntS {X : Ext} (hX : XOk X) {n : Nat} (hn : W + 1 ≤ n) (a : List Int) (k : Int) (hk : 0 ≤ k) (h : k + cnt IntsT a ≤ maxLen) : C_laws_heldIntS (DD X n) (mkT IntsT k a).2 k = some (((mkT IntsT k a).1, ()), ()) := by
  rw [markInts_mk]; rw [cnt_ints] at h; exact c_heldIntS hX hn a k hk h
end Go.G

/- B, ways: the laws' helpers. No condition. -/
namespace Go.G
set_option linter.unusedVariables false
set_option linter.unusedSimpArgs false
open Go Go.V

abbrev WayT : Ty := .pair .str (.pair .str .unit)
abbrev Way := ByteArray × ByteArray × Unit

theorem c_eqWay {X : Ext} (hX : XOk X) {n : Nat} (hn : 1 ≤ n) (a b : Way) : C_laws_eqWay (DD X n) a b = some ((decide (a = b), ()), ()) := by
  obtain ⟨n, rfl⟩ : ∃ k, n = k + 1 := ⟨n - 1, by omega⟩
  rw [S_laws_eqWay hX]
  obtain ⟨a1, a2, ⟨⟩⟩ := a
  obtain ⟨b1, b2, ⟨⟩⟩ := b
  simp only [F_laws_eqWay, laws_eqWay_e, beq_bytes]
  by_cases h1 : a1 = b1 <;> by_cases h2 : a2 = b2 <;> simp [h1, h2, br]

theorem eqWayS_L (D : Den ctx) (n : Nat) (K0 : Bool → Option ((Bool × Unit) × Unit)) (K1 : Option ((Bool × Unit) × Unit)) : ∀ (m i : Nat) (a b : List Way), (∀ x y, y ∈ b → C_laws_eqWay D x y = some ((decide (x = y), ()), ())) →
    a.length = b.length → a.length ≤ maxLen → i ≤ a.length → a.length - i < m → laws_eqWayS_L0 D n K0 K1 m a b i = if a.drop i = b.drop i then K1 else K0 false
  | 0, _, _, _, _, _, _, _, h => by omega
  | m + 1, i, a, b, he, hl, hm, hi, hk => by
    simp only [laws_eqWayS_L0, laws_eqWayS_b0]
    have hd := maxLen_def
    by_cases h : i < a.length
    · rw [br_pos (by exact_mod_cast h), ix h, br_t, ix (hl ▸ h), br_t, wrap_succ (by omega), Int.toNat_natCast, getD_lt h, getD_lt (hl ▸ h), he _ _ (List.getElem_mem _), bindD_some, drop_cons h, drop_cons (hl ▸ h : i < b.length)]
      by_cases e : a[i] = b[i]'(hl ▸ h)
      · simp only [e, decide_true, Bool.not_true, br_f, List.cons.injEq, true_and]
        exact eqWayS_L D n K0 K1 m (i + 1) a b he hl hm (by omega) (by omega)
      · simp only [e, decide_false, Bool.not_false, br_t, List.cons.injEq, false_and, if_false]
    · rw [br_neg (by exact_mod_cast h), drop_end h, drop_end (hl ▸ h)]; rfl
theorem c_eqWayS {X : Ext} (hX : XOk X) {n : Nat} (hn : W + 3 ≤ n) (a b : List Way) (hb : b.length ≤ maxLen) : C_laws_eqWayS (DD X n) a b = some ((decide (a = b), ()), ()) := by
  obtain ⟨n, rfl⟩ : ∃ k, n = k + 1 := ⟨n - 1, by omega⟩
  rw [S_laws_eqWayS hX]
  simp only [F_laws_eqWayS, laws_eqWayS_e, laws_eqWayS_LP0]
  by_cases h : a.length = b.length
  · have e : ((a.length : Int) != (b.length : Int)) = false := by simp [h]
    rw [e, br_f]
    have := eqWayS_L (DD X n) n (fun v => laws_eqWayS_x0_0 (DD X n) n v) (laws_eqWayS_x0_1 (DD X n) n) n 0 a b (fun x y hy => c_eqWay hX (by omega) x y) h (by omega) (by omega) (by have := W_def; have := maxLen_def; omega)
    rw [show ((0 : Nat) : Int) = 0 from rfl] at this
    rw [this]
    simp only [List.drop_zero, laws_eqWayS_x0_0, laws_eqWayS_x0_1]
    by_cases h : a = b <;> simp [h]
  · have e : ((a.length : Int) != (b.length : Int)) = true := by simp; omega
    have : a ≠ b := fun h2 => h (by rw [h2])
    rw [e, br_t]; simp [this]

theorem c_toWay {X : Ext} (hX : XOk X) {n : Nat} (hn : 1 ≤ n) (a : Way) : C_laws_toWay (DD X n) a = some ((a, ()), ()) := by
  obtain ⟨n, rfl⟩ : ∃ k, n = k + 1 := ⟨n - 1, by omega⟩
  rw [S_laws_toWay hX]; rfl
theorem toWayS_L (D : Den ctx) (n : Nat) (K : List Way → Option ((List Way × Unit) × Unit)) : ∀ (m i : Nat) (a c : List Way), (∀ x ∈ a, C_laws_toWay D x = some ((x, ()), ())) → a.length = c.length → a.length ≤ maxLen → i ≤ a.length → a.length - i < m →
    laws_toWayS_L0 D n K m a i c = K (c.take i ++ a.drop i)
  | 0, _, _, _, _, _, _, _, h => by omega
  | m + 1, i, a, c, he, hl, hm, hi, hk => by
    simp only [laws_toWayS_L0, laws_toWayS_b0]
    have hd := maxLen_def
    by_cases h : i < a.length
    · rw [br_pos (by exact_mod_cast h), ix h, br_t, Int.toNat_natCast, getD_lt h, he _ (List.getElem_mem _), bindD_some, ix (hl ▸ h), br_t, wrap_succ (by omega)]
      have e := toWayS_L D n K m (i + 1) a (c.set i a[i]) he (by simp [hl]) hm (by omega) (by omega)
      rw [drop_cons h]
      refine Eq.trans e ?_
      rw [take_set (hl ▸ h), List.append_assoc]; rfl
    · rw [br_neg (by exact_mod_cast h), drop_end h, List.take_of_length_le (by omega), List.append_nil]
theorem c_toWayS {X : Ext} (hX : XOk X) {n : Nat} (hn : W + 3 ≤ n) (a : List Way) (ha : a.length ≤ bound) : C_laws_toWayS (DD X n) a = some ((a, ()), ()) := by
  obtain ⟨n, rfl⟩ : ∃ k, n = k + 1 := ⟨n - 1, by omega⟩
  rw [S_laws_toWayS hX]
  simp only [F_laws_toWayS, laws_toWayS_e, laws_toWayS_LP0]
  rw [to_cond ha, br_t]
  have h1 := bound_def
  have := toWayS_L (DD X n) n (fun v => laws_toWayS_x0_0 (DD X n) n v) n 0 a (List.replicate (Int.toNat (a.length : Int)) (ByteArray.empty, ByteArray.empty, ())) (fun x hx => c_toWay hX (by omega) x) (by simp) (by rw [maxLen_def]; omega) (by omega) (by have := W_def; omega)
  rw [show ((0 : Nat) : Int) = 0 from rfl] at this
  rw [this]
  simp only [List.take_zero, List.drop_zero, List.nil_append, laws_toWayS_x0_0]

theorem c_szWay {X : Ext} (hX : XOk X) {n : Nat} (hn : 1 ≤ n) (a : Way) (k : Int) (ha : Wf WayT a) (hk : 0 ≤ k ∧ k ≤ maxLen) : C_laws_szWay (DD X n) a k = some ((left WayT a k, ()), ()) := by
  obtain ⟨n, rfl⟩ : ∃ k, n = k + 1 := ⟨n - 1, by omega⟩
  have hd := maxLen_def
  obtain ⟨w1, w2, -⟩ := ha
  have w1' : a.1.size ≤ maxLen := w1
  have w2' : a.2.1.size ≤ maxLen := w2
  have ht : tot WayT a = a.1.size + (a.2.1.size + 0) := rfl
  rw [S_laws_szWay hX]
  simp only [F_laws_szWay, laws_szWay_e]
  rw [wrap_id (by omega) (by omega)]
  by_cases h : k - (a.1.size : Int) < 0
  · rw [br_pos h, left_neg (by omega)]
  · rw [br_neg h, wrap_id (by omega) (by omega)]
    by_cases h2 : k - (a.1.size : Int) - (a.2.1.size : Int) < 0
    · rw [br_pos h2, left_neg (by omega)]
    · rw [br_neg h2, left_pos (by omega)]
      congr 3; omega
theorem szWayS_L (D : Den ctx) (n : Nat) (K0 : Int → Int → Option ((Int × Unit) × Unit)) (K1 : Int → Option ((Int × Unit) × Unit)) (hK : ∀ k, K1 k = some ((k, ()), ())) (hK0 : ∀ k, K0 k (-1) = some ((-1, ()), ())) : ∀ (m i : Nat) (k : Int) (a : List Way),
    (∀ x ∈ a, ∀ k : Int, 0 ≤ k → k ≤ maxLen → C_laws_szWay D x k = some ((left WayT x k, ()), ())) → a.length ≤ maxLen → i ≤ a.length → a.length - i < m → 0 ≤ k → k ≤ maxLen →
    laws_szWayS_L0 D n K0 K1 m a k i = some ((if (((a.drop i).map (tot WayT)).sum : Int) ≤ k then k - ((a.drop i).map (tot WayT)).sum else -1, ()), ())
  | 0, _, _, _, _, _, _, h, _, _ => by omega
  | m + 1, i, k, a, he, hm, hi, hf, h0, h1 => by
    simp only [laws_szWayS_L0, laws_szWayS_b0]
    have hd := maxLen_def
    by_cases h : i < a.length
    · rw [br_pos (by exact_mod_cast h), ix h, br_t, Int.toNat_natCast, getD_lt h, he _ (List.getElem_mem _) k h0 h1, bindD_some, wrap_succ (by omega), map_drop_sum h]
      by_cases h2 : left WayT a[i] k < 0
      · rw [br_pos h2, hK0, if_neg]
        intro h3
        rw [left_pos (by omega)] at h2
        omega
      · obtain ⟨e1, e2⟩ := left_nonneg h2 h0
        rw [br_neg h2, e1]; dsimp only
        rw [szWayS_L D n K0 K1 hK hK0 m (i + 1) _ a he hm (by omega) (by omega) (by omega) (by omega)]
        congr 3
        push_cast
        split <;> split <;> omega
    · rw [br_neg (by exact_mod_cast h), drop_end h, hK]
      simp [h0]
theorem c_szWayS {X : Ext} (hX : XOk X) {n : Nat} (hn : W + 3 ≤ n) (a : List Way) (k : Int) (ha : Wf (.sl WayT) a) (hk : 0 ≤ k ∧ k ≤ maxLen) : C_laws_szWayS (DD X n) a k = some ((left (.sl WayT) a k, ()), ()) := by
  obtain ⟨n, rfl⟩ : ∃ k, n = k + 1 := ⟨n - 1, by omega⟩
  have hd := maxLen_def
  have w1 : a.length ≤ maxLen := ha.1
  have hts := tot_sl (t := WayT) a
  rw [S_laws_szWayS hX]
  simp only [F_laws_szWayS, laws_szWayS_e, laws_szWayS_LP0]
  rw [wrap_id (by omega) (by omega)]
  by_cases h : k - (a.length : Int) < 0
  · rw [br_pos h, left_neg (by omega)]
  · rw [br_neg h]
    have := szWayS_L (DD X n) n (fun v w => laws_szWayS_x0_0 (DD X n) n v w) (fun v => laws_szWayS_x0_1 (DD X n) n v) (fun _ => rfl) (fun _ => rfl) n 0 (k - a.length) a
      (fun x hx k h0 h1 => c_szWay hX (by omega) x k (ha.2 x hx) ⟨h0, h1⟩) w1 (by omega) (by have := W_def; omega) (by omega) (by omega)
    rw [show ((0 : Nat) : Int) = 0 from rfl] at this
    rw [this, List.drop_zero]
    by_cases h2 : (tot (.sl WayT) a : Int) ≤ k
    · rw [left_pos h2, if_pos (by omega)]; congr 3; omega
    · rw [left_neg h2, if_neg (by omega)]

theorem markWayS_L {X : Ext} (hX : XOk X) (N n : Nat) (hN : W + 1 ≤ N) (K : Int → List Way → Option ((Int × Unit) × List Way × Unit)) : ∀ (m i : Nat) (k : Int) (a : List Way), a.length ≤ maxLen → i ≤ a.length → a.length - i < m → 0 ≤ k → k + ((a.drop i).map (cnt WayT)).sum ≤ maxLen →
    laws_markWayS_L0 (DD X N) n K m k i a = K (mkL (mkT WayT) k (a.drop i)).1 (a.take i ++ (mkL (mkT WayT) k (a.drop i)).2)
  | 0, _, _, _, _, _, h, _, _ => by omega
  | m + 1, i, k, a, hm, hi, hf, hk, hkl => by
    simp only [laws_markWayS_L0, laws_markWayS_b0]
    have hd := maxLen_def
    by_cases h : i < a.length
    · rw [map_drop_sum h] at hkl
      have hc : cnt WayT a[i] = 2 := rfl
      rw [br_pos (by exact_mod_cast h), c_markText hX hN k (by omega), bindD_some, ix h, br_t]
      simp only [List.length_set, Int.toNat_natCast, getD_set_same h, getD_lt h, List.set_set]
      rw [wrap_id (by omega) (by omega), c_markText hX hN (k + 1) (by omega), bindD_some, ix h, br_t, wrap_id (by omega) (by omega), wrap_succ (by omega)]
      have e := markWayS_L hX N n hN K m (i + 1) (k + 1 + 1) (a.set i (mtext k, mtext (k + 1), a[i].2.2)) (by simpa using hm) (by simp; omega) (by simp; omega) (by omega) (by rw [List.drop_set_of_lt (by omega)]; omega)
      refine Eq.trans e ?_
      rw [take_set h, drop_cons h, List.drop_set_of_lt (by omega), List.append_assoc]
      rfl
    · rw [br_neg (by exact_mod_cast h), drop_end h, List.take_of_length_le (by omega)]
      simp only [mkL, List.append_nil]
theorem m_markWayS {X : Ext} (hX : XOk X) {n : Nat} (hn : W + 2 ≤ n) (a : List Way) (k : Int) (ha : a.length ≤ maxLen) (hk : 0 ≤ k) (h : k + cnt (.sl WayT) a ≤ maxLen) :
    C_laws_markWayS (DD X n) a k = some (((mkT (.sl WayT) k a).1, ()), ((mkT (.sl WayT) k a).2, ())) := by
  obtain ⟨n, rfl⟩ : ∃ k, n = k + 1 := ⟨n - 1, by omega⟩
  have hd := maxLen_def
  rw [S_laws_markWayS hX]
  simp only [F_laws_markWayS, laws_markWayS_e, laws_markWayS_LP0]
  have := markWayS_L hX n n (by omega) (fun v w => laws_markWayS_x0_0 (DD X n) n v w) n 0 k a ha (by omega) (by have := W_def; omega) hk (by rw [List.drop_zero]; exact h)
  rw [show ((0 : Nat) : Int) = 0 from rfl] at this
  rw [this]
  simp only [List.take_zero, List.drop_zero, List.nil_append, laws_markWayS_x0_0, mkT]
theorem heldWayS_L {X : Ext} (hX : XOk X) (N n : Nat) (hN : W + 1 ≤ N) (K0 : Int → Int → Option ((Int × Unit) × Unit)) (K1 : Int → Option ((Int × Unit) × Unit)) : ∀ (m i : Nat) (k : Int) (a l : List Way), a.length ≤ maxLen → i ≤ a.length → a.length - i < m → 0 ≤ k → k + (l.map (cnt WayT)).sum ≤ maxLen →
    a.drop i = (mkL (mkT WayT) k l).2 → laws_heldWayS_L0 (DD X N) n K0 K1 m a k i = K1 (mkL (mkT WayT) k l).1
  | 0, _, _, _, _, _, _, h, _, _, _ => by omega
  | m + 1, i, k, a, l, hm, hi, hf, hk, hkl, hl => by
    simp only [laws_heldWayS_L0, laws_heldWayS_b0]
    have hd := maxLen_def
    by_cases h : i < a.length
    · rw [drop_cons h] at hl
      cases l with
      | nil => simp [mkL] at hl; omega
      | cons x l =>
        simp only [mkL, List.cons.injEq] at hl
        obtain ⟨hx, hl⟩ := hl
        simp only [List.map_cons, List.sum_cons] at hkl
        have hc : cnt WayT x = 2 := rfl
        have hx1 : a[i].1 = mtext k := by rw [hx]; rfl
        have hx2 : a[i].2.1 = mtext (k + 1) := by rw [hx]; rfl
        rw [br_pos (by exact_mod_cast h), ix h, br_t, c_markText hX hN k (by omega), bindD_some, Int.toNat_natCast, getD_lt h, hx1, hx2, beq_bytes]
        simp only [decide_true, Bool.not_true, br_f, br_t]
        rw [wrap_id (by omega) (by omega), c_markText hX hN (k + 1) (by omega), bindD_some, beq_bytes]
        simp only [decide_true, Bool.not_true, br_f]
        rw [wrap_id (by omega) (by omega), wrap_succ (by omega)]
        have e := heldWayS_L hX N n hN K0 K1 m (i + 1) (mkT WayT k x).1 a l hm (by omega) (by omega) (by rw [mkT_cnt]; omega) (by rw [mkT_cnt]; omega) hl
        exact e
    · rw [br_neg (by exact_mod_cast h)]
      rw [drop_end h] at hl
      cases l with
      | nil => rfl
      | cons x l => simp [mkL] at hl
theorem m_heldWayS {X : Ext} (hX : XOk X) {n : Nat} (hn : W + 2 ≤ n) (a : List Way) (k : Int) (ha : a.length ≤ maxLen) (hk : 0 ≤ k) (h : k + cnt (.sl WayT) a ≤ maxLen) :
    C_laws_heldWayS (DD X n) (mkT (.sl WayT) k a).2 k = some (((mkT (.sl WayT) k a).1, ()), ()) := by
  obtain ⟨n, rfl⟩ : ∃ k, n = k + 1 := ⟨n - 1, by omega⟩
  have hd := maxLen_def
  rw [S_laws_heldWayS hX]
  simp only [F_laws_heldWayS, laws_heldWayS_e, laws_heldWayS_LP0]
  have hml : (mkT (.sl WayT) k a).2.length = a.length := mkL_len k a
  have := heldWayS_L hX n n (by omega) (fun v w => laws_heldWayS_x0_0 (DD X n) n v w) (fun v => laws_heldWayS_x0_1 (DD X n) n v) n 0 k (mkT (.sl WayT) k a).2 a (by omega) (by omega) (by have := W_def; omega) hk h (by simp [mkT])
  rw [show ((0 : Nat) : Int) = 0 from rfl] at this
  rw [this]
  simp only [laws_heldWayS_x0_1, mkT]
end Go.G

/- B, ways taken: what slices.IndexFunc and slices.DeleteFunc make of a row of ways. No condition. -/
namespace Go.G
set_option linter.unusedVariables false
set_option linter.unusedSimpArgs false
set_option maxRecDepth 100000
open Go Go.V Go.Proofs

def wd : Way := (ByteArray.empty, ByteArray.empty, ())
theorem eqWay_den (a b : Way) : eqDen WayT a b = decide (a = b) := by
  obtain ⟨a1, a2, ⟨⟩⟩ := a
  obtain ⟨b1, b2, ⟨⟩⟩ := b
  have e : ∀ x y : ByteArray, (x.toList == y.toList) = decide (x = y) := fun x y => beq_bytes
  simp only [eqDen, e]
  by_cases h1 : a1 = b1 <;> by_cases h2 : a2 = b2 <;> simp [h1, h2]
/-- what a predicate that is handed over tells -/
def Tells (D : Den ctx) (c : Clo) (P : Way → Bool) : Prop := ∀ x : Way, applyClo ctx D c [CapV.val WayT x] Ty.bool = some (P x)
theorem tells_del {X : Ext} (hX : XOk X) {n : Nat} (hn : 1 ≤ n) (w : Way) : Tells (DD X n) (Clo.mk 68 [CapV.rptr WayT w]) fun x => decide (x = w) := by
  obtain ⟨n, rfl⟩ : ∃ k, n = k + 1 := ⟨n - 1, by omega⟩
  intro x
  have h : ∀ D : Den ctx, applyClo ctx D (Clo.mk 68 [CapV.rptr WayT w]) [CapV.val WayT x] Ty.bool = (C_impl_WayDel_1 D x w).bind fun r => some r.1.1 := fun D => by kernel_rfl
  rw [h, S_impl_WayDel_1 hX]
  simp only [F_impl_WayDel_1, impl_WayDel_1_e, Option.bind_some, eqWay_den]
theorem indexFunc_L (D : Den ctx) (n : Nat) (c : Clo) (P : Way → Bool) (hP : Tells D c P) (K0 : Int → Option ((Int × Unit) × Unit)) (K1 : Option ((Int × Unit) × Unit)) : ∀ (m i : Nat) (a : List Way), a.length ≤ maxLen → i ≤ a.length → a.length - i < m →
    (slices_IndexFunc_impl_Way_impl_Way_L0 D n c K0 K1 m a a.length i = K1 ∧ ∀ k, i ≤ k → k < a.length → P (a.getD k wd) = false) ∨
    ∃ j, i ≤ j ∧ j < a.length ∧ P (a.getD j wd) = true ∧ (∀ k, i ≤ k → k < j → P (a.getD k wd) = false) ∧ slices_IndexFunc_impl_Way_impl_Way_L0 D n c K0 K1 m a a.length i = K0 (j : Int)
  | 0, _, _, _, _, h => by omega
  | m + 1, i, a, hm, hi, hf => by
    simp only [slices_IndexFunc_impl_Way_impl_Way_L0, slices_IndexFunc_impl_Way_impl_Way_b0]
    have hd := maxLen_def
    by_cases h : i < a.length
    · rw [br_pos (by exact_mod_cast h), ix h, br_t, Int.toNat_natCast, hP, bindD_some, wrap_succ (by omega)]
      cases hp : P (a.getD i (ByteArray.empty, ByteArray.empty, ())) with
      | true => exact .inr ⟨i, by omega, h, hp, fun k h1 h2 => by omega, by rw [br_t]⟩
      | false =>
        rw [br_f]
        rcases indexFunc_L D n c P hP K0 K1 m (i + 1) a hm (by omega) (by omega) with ⟨e, hall⟩ | ⟨j, h1, h2, h3, h4, e⟩
        · refine .inl ⟨e, fun k h1 h2 => ?_⟩
          rcases Nat.eq_or_lt_of_le h1 with rfl | h1
          · exact hp
          · exact hall k h1 h2
        · refine .inr ⟨j, by omega, h2, h3, fun k h5 h6 => ?_, e⟩
          rcases Nat.eq_or_lt_of_le h5 with rfl | h5
          · exact hp
          · exact h4 k h5 h6
    · rw [br_neg (by exact_mod_cast h)]
      exact .inl ⟨rfl, fun k h1 h2 => by omega⟩
theorem filter_take {P : Way → Bool} {a : List Way} : ∀ {i : Nat}, i ≤ a.length → (∀ k, k < i → P (a.getD k wd) = false) → (a.take i).filter (fun x => !P x) = a.take i := by
  intro i hi h
  rw [List.filter_eq_self]
  intro x hx
  obtain ⟨k, hk, rfl⟩ := List.mem_iff_getElem.1 hx
  rw [List.length_take] at hk
  have := h k (by omega)
  rw [getD_lt (by omega)] at this
  rw [List.getElem_take, this]
  rfl
theorem deleteFunc_L (D : Den ctx) (n : Nat) (c : Clo) (P : Way → Bool) (hP : Tells D c P) (K0 : Int → List Way → Option ((List Way × Unit) × Unit)) (a : List Way) (ha : a.length ≤ maxLen) : ∀ (m i j : Nat) (l : List Way), l.length = a.length → i < j → j ≤ a.length → a.length - j < m →
    l.take i = (a.take j).filter (fun x => !P x) → l.drop j = a.drop j →
    ∃ (i' : Nat) (l' : List Way), i' < a.length ∧ l'.length = a.length ∧ l'.take i' = a.filter (fun x => !P x) ∧ slices_DeleteFunc_impl_Way_impl_Way_L0 D n c K0 m i j l = K0 (i' : Int) l'
  | 0, _, _, _, _, _, _, h, _, _ => by omega
  | m + 1, i, j, l, hl, hij, hj, hf, ht, hdr => by
    simp only [slices_DeleteFunc_impl_Way_impl_Way_L0, slices_DeleteFunc_impl_Way_impl_Way_b0]
    have hd := maxLen_def
    by_cases h : j < a.length
    · have hjl : j < l.length := by omega
      have hx : l[j] = a[j] := by
        rw [drop_cons hjl, drop_cons h] at hdr
        exact (List.cons.inj hdr).1
      have hdr2 : l.drop (j + 1) = a.drop (j + 1) := by
        rw [drop_cons hjl, drop_cons h] at hdr
        exact (List.cons.inj hdr).2
      have htk : a.take (j + 1) = a.take j ++ [a[j]] := by rw [List.take_succ_eq_append_getElem h]
      rw [br_pos (by exact_mod_cast hjl), ix hjl, br_t, Int.toNat_natCast, hP, bindD_some, getD_lt hjl, hx, wrap_succ (i := j) (by omega)]
      cases hp : P a[j] with
      | false =>
        rw [Bool.not_false, br_t, ix (i := i) (by omega), br_t, Int.toNat_natCast, wrap_succ (i := i) (by omega)]
        have e := deleteFunc_L D n c P hP K0 a ha m (i + 1) (j + 1) (l.set i a[j]) (by simpa using hl) (by omega) (by omega) (by omega)
          (by rw [take_set (by omega), ht, htk, List.filter_append]; simp [hp]) (by rw [List.drop_set_of_lt (by omega)]; exact hdr2)
        exact e
      | true =>
        rw [Bool.not_true, br_f]
        exact deleteFunc_L D n c P hP K0 a ha m i (j + 1) l hl (by omega) (by omega) (by omega) (by rw [ht, htk, List.filter_append]; simp [hp]) hdr2
    · have e : j = a.length := by omega
      subst e
      rw [br_neg (by omega)]
      exact ⟨i, l, hij, hl, by rw [ht, List.take_length], rfl⟩
theorem c_deleteWays {X : Ext} (hX : XOk X) {n : Nat} (hn : W + 2 ≤ n) (a : List Way) (ha : a.length ≤ maxLen) (c : Clo) (P : Way → Bool) (hP1 : Tells (DD X (n - 1)) c P) (hP2 : Tells (DD X (n - 2)) c P) :
    C_slices_DeleteFunc_impl_Way_impl_Way (DD X n) a c = some ((a.filter (fun x => !P x), ()), ()) := by
  obtain ⟨n, rfl⟩ : ∃ k, n = k + 2 := ⟨n - 2, by omega⟩
  have hW := W_def
  have hd := maxLen_def
  have hP1' : Tells (DD X (n + 1)) c P := hP1
  have hP2' : Tells (DD X n) c P := hP2
  rw [S_slices_DeleteFunc_impl_Way_impl_Way hX]
  simp only [F_slices_DeleteFunc_impl_Way_impl_Way, slices_DeleteFunc_impl_Way_impl_Way_e, slices_DeleteFunc_impl_Way_impl_Way_LP0]
  rw [S_slices_IndexFunc_impl_Way_impl_Way hX]
  simp only [F_slices_IndexFunc_impl_Way_impl_Way, slices_IndexFunc_impl_Way_impl_Way_e, slices_IndexFunc_impl_Way_impl_Way_LP0]
  have hI := indexFunc_L (DD X n) n c P hP2' (fun v => slices_IndexFunc_impl_Way_impl_Way_x0_0 (DD X n) n c v) (slices_IndexFunc_impl_Way_impl_Way_x0_1 (DD X n) n c) n 0 a ha (by omega) (by omega)
  rw [show ((0 : Nat) : Int) = 0 from rfl] at hI
  rcases hI with ⟨e, hall⟩ | ⟨j, _, hj, hp, hall, e⟩
  · rw [e]
    simp only [slices_IndexFunc_impl_Way_impl_Way_x0_1, bindD_some, decide_true, br_t]
    have := filter_take (P := P) (a := a) (Nat.le_refl _) (fun k hk => hall k (by omega) hk)
    rw [List.take_length] at this
    rw [this]
  · rw [e]
    simp only [slices_IndexFunc_impl_Way_impl_Way_x0_0, bindD_some]
    rw [br_neg (by omega), wrap_succ (by omega)]
    have hf := filter_take (P := P) (a := a) (i := j) (by omega) (fun k hk => hall k (by omega) hk)
    rw [getD_lt hj] at hp
    obtain ⟨i', l', h1, h2, h3, e2⟩ := deleteFunc_L (DD X (n + 1)) (n + 1) c P hP1' (fun v w => slices_DeleteFunc_impl_Way_impl_Way_x0_0 (DD X (n + 1)) (n + 1) c v w) a ha (n + 1) j (j + 1) a rfl (by omega) (by omega) (by omega)
      (by rw [List.take_succ_eq_append_getElem hj, List.filter_append, hf]; simp [hp]) rfl
    rw [e2]
    simp only [slices_DeleteFunc_impl_Way_impl_Way_x0_0]
    have hz : (zeroed WayT l' i' l'.length).length = l'.length := by
      simp only [zeroed, List.length_append, List.length_take, List.length_replicate, List.length_drop]; omega
    have hz2 : List.take i' (zeroed WayT l' i' l'.length) = l'.take i' := by
      simp only [zeroed]
      rw [List.append_assoc, List.take_append_of_le_length (by rw [List.length_take]; omega), List.take_take, Nat.min_self]
    have hc1 : (decide ((0 : Int) ≤ (i' : Int)) && decide ((i' : Int) ≤ (l'.length : Int))) = true := by
      rw [decide_eq_true (by omega), decide_eq_true (by omega)]; rfl
    have hz' : (zeroed (Ty.pair Ty.str (Ty.pair Ty.str Ty.unit)) l' i' l'.length).length = l'.length := hz
    have hz2' : List.take i' (zeroed (Ty.pair Ty.str (Ty.pair Ty.str Ty.unit)) l' i' l'.length) = l'.take i' := hz2
    rw [hc1, br_t, Int.toNat_natCast, br_pos (by omega), hz', hc1, br_t, hz2', h3]
theorem c_cloneWays {X : Ext} (hX : XOk X) {n : Nat} (hn : 1 ≤ n) (a : List Way) (ha : a.length ≤ bound) : C_slices_Clone_impl_Way_impl_Way (DD X n) a = some ((a, ()), ()) := by
  obtain ⟨n, rfl⟩ : ∃ k, n = k + 1 := ⟨n - 1, by omega⟩
  rw [S_slices_Clone_impl_Way_impl_Way hX]
  simp only [F_slices_Clone_impl_Way_impl_Way, slices_Clone_impl_Way_impl_Way_e]
  cases a with
  | nil => simp [br_ite, both, bound_def]
  | cons x a => simp [br_ite]; simpa using ha
def del (a : List Way) (w : Way) : List Way := a.filter fun x => !decide (x = w)
theorem c_implWayDel {X : Ext} (hX : XOk X) {n : Nat} (hn : W + 3 ≤ n) (a : List Way) (ha : a.length ≤ bound) (w : Way) : C_impl_WayDel (DD X n) a w = some ((del a w, ()), ()) := by
  obtain ⟨n, rfl⟩ : ∃ k, n = k + 1 := ⟨n - 1, by omega⟩
  have hb := bound_def
  have hd := maxLen_def
  have hW := W_def
  rw [S_impl_WayDel hX]
  simp only [F_impl_WayDel, impl_WayDel_e]
  rw [c_cloneWays hX (by omega) a ha, bindD_some]; dsimp only
  rw [c_deleteWays hX (by omega) a (by omega) _ (fun x => decide (x = w)) (tells_del hX (by omega) w) (tells_del hX (by omega) w), bindD_some]
  rfl
theorem specDel_L (D : Den ctx) (n : Nat) (K : List Way → Option ((List Way × Unit) × Unit)) (w : Way) : ∀ (m i : Nat) (a o : List Way), a.length ≤ 1048576 → i ≤ a.length → a.length - i < m → o.length ≤ i →
    spec_WayDel_L0 D n K m a i w o = K (o ++ del (a.drop i) w)
  | 0, _, _, _, _, _, h, _ => by omega
  | m + 1, i, a, o, hm, hi, hf, ho => by
    simp only [spec_WayDel_L0, spec_WayDel_b0]
    have hb := bound_def
    by_cases h : i < a.length
    · have e0 : eqDen (Ty.pair Ty.str (Ty.pair Ty.str Ty.unit)) a[i] w = decide (a[i] = w) := eqWay_den _ _
      rw [br_pos (by exact_mod_cast h), ix h, br_t, Int.toNat_natCast, getD_lt h, wrap_succ (by omega), drop_cons h, e0]
      by_cases e : a[i] = w
      · rw [decide_eq_true e, Bool.not_true, br_f]
        have := specDel_L D n K w m (i + 1) a o hm (by omega) (by omega) (by omega)
        refine Eq.trans this ?_
        simp [del, e]
      · rw [decide_eq_false e, Bool.not_false, br_t, br_t, br_pos (by omega)]
        have := specDel_L D n K w m (i + 1) a (o ++ [a[i]]) hm (by omega) (by omega) (by simp; omega)
        refine Eq.trans this ?_
        have hd : del (a[i] :: a.drop (i + 1)) w = a[i] :: del (a.drop (i + 1)) w := by
          simp only [del]; rw [List.filter_cons_of_pos]; simp [e]
        rw [hd, List.append_assoc]; rfl
    · rw [br_neg (by exact_mod_cast h), drop_end h]
      simp [del]
theorem c_specWayDel {X : Ext} (hX : XOk X) {n : Nat} (hn : W + 1 ≤ n) (a : List Way) (ha : a.length ≤ 1048576) (w : Way) : C_spec_WayDel (DD X n) a w = some ((del a w, ()), ()) := by
  obtain ⟨n, rfl⟩ : ∃ k, n = k + 1 := ⟨n - 1, by omega⟩
  have hW := W_def
  rw [S_spec_WayDel hX]
  simp only [F_spec_WayDel, spec_WayDel_e, spec_WayDel_LP0]
  have := specDel_L (DD X n) n (fun v => spec_WayDel_x0_0 (DD X n) n v) w n 0 a [] ha (by omega) (by omega) (by simp)
  rw [show ((0 : Nat) : Int) = 0 from rfl] at this
  refine Eq.trans this ?_
  simp only [List.drop_zero, List.nil_append, spec_WayDel_x0_0]
end Go.G

/- The row FnExactWayDel holds: for all arguments the law returns true and the arguments read as before. No condition. -/
namespace Go.G
set_option linter.unusedVariables false
set_option maxRecDepth 100000
open Go Go.V Go.Proofs

theorem cnt_ways : ∀ (a : List Way), cnt (.sl WayT) a = 2 * a.length
  | [] => rfl
  | x :: a => by
    have := cnt_ways a
    rw [cnt_sl] at this ⊢
    rw [List.map_cons, List.sum_cons, this, List.length_cons]
    have : cnt WayT x = 2 := rfl
    omega
theorem markWays_pos (a : List Way) (k : Int) (hk : 0 ≤ k) : ¬ (mkT (.sl WayT) k a).1 < 0 := by rw [mkT_cnt]; omega
theorem del_len (a : List Way) (w : Way) : (del a w).length ≤ a.length := List.length_filter_le _ _
theorem fnExactWayDel_law (a : List Way) (w : Way) (wa : Wf (.sl WayT) a) (ww : Wf WayT w) : C_laws_FnExactWayDel (DD noExt (W + 6)) a w = some ((true, ()), ()) := by
  have hX := noExt_ok
  have hd := maxLen_def
  have hb := bound_def
  rw [S_laws_FnExactWayDel hX]
  simp only [F_laws_FnExactWayDel, laws_FnExactWayDel_e]
  rw [c_szWayS hX (by omega) a 1048576 wa (by omega), bindD_some]; dsimp only
  by_cases h : left (.sl WayT) a 1048576 < 0
  · rw [br_pos h]
  · rw [br_neg h]
    obtain ⟨h1, h2⟩ := left_nonneg h (by omega)
    rw [c_szWay hX (by omega) w _ ww (by omega), bindD_some]; dsimp only
    by_cases h3 : left WayT w (left (.sl WayT) a 1048576) < 0
    · rw [br_pos h3]
    · rw [br_neg h3]
      have ht := tot_sl (t := WayT) a
      have hl : a.length ≤ 1048576 := by omega
      have hl2 := del_len a w
      have hc := cnt_ways a
      have hc2 := cnt_ways (del a w)
      have e1 := c_toWayS hX (n := W + 5) (by omega) a (by omega)
      have e2 := c_toWay hX (n := W + 5) (by omega) w
      have e3 := c_specWayDel hX (n := W + 5) (by omega) a hl w
      have e4 := c_implWayDel hX (n := W + 5) (by omega) a (by omega) w
      have e5 := c_eqWayS hX (n := W + 5) (by omega) a a (by omega)
      have e6 := c_eqWayS hX (n := W + 5) (by omega) (del a w) (del a w) (by omega)
      have e7 := m_markWayS hX (n := W + 5) (by omega) a 1 (by omega) (by omega) (by omega)
      have e8 := m_markWayS hX (n := W + 5) (by omega) (del a w) 1 (by omega) (by omega) (by omega)
      have e9 := m_heldWayS hX (n := W + 5) (by omega) (del a w) 1 (by omega) (by omega) (by omega)
      have p1 := decide_eq_false (markWays_pos a 1 (by omega))
      have p2 := decide_eq_false (markWays_pos (del a w) 1 (by omega))
      simp only [e1, e2, e3, e4, e5, e6, e7, e8, e9, p1, p2, bindD_some, decide_true, Bool.not_true, br_f, bne_self_eq_false]
end Go.G
namespace Go.Proofs.Ytjjcilkcffigeaa
open Go.ChangeShapes Go.WideShapes Go.ChangeAt Go.RowKit Go.V Go.G
set_option maxRecDepth 100000
theorem fnExactWayDel_lifted (os : Os) (started : os.Started) (H : Type) (enc : TypeId × Value → H) :
    ReturnsInHanded {} Try.checked os 6 .any (Rows.fnExactWayDelSpec.pre6 enc Try.prog Try.f6 Rows.fnExactWayDelRow.domain false) (Rows.fnExactWayDelSpec.post enc Try.prog Try.f6 false true false false) :=
  lifted_of (X := noExt) (tb := 4) started Try.func6 (by kernel_rfl)
    (ChangeSpec.witness6 (enc := enc) (C := Try.checked) false ⟨#[], Try.f6.params.map fun t => ((Try.prog.info? t).bind (·.zero)).getD .nilIface, []⟩ 8 (by kernel_rfl) (by kernel_rfl) (by kernel_rfl) (by kernel_rfl))
    ⟨rfl, rfl, rfl, rfl, trivial⟩ (by kernel_rfl) (by kernel_rfl) (by kernel_rfl) rfl
    (fun ds h => by
      match ds, h with
      | [d0, d1], _ => exact ⟨rfl, rfl, rfl⟩)
    (fun a wa => ⟨W + 6, ((true, ()), ()), fnExactWayDel_law a.1 a.2.1 wa.1 wa.2.1, fun h Pr Gs us k => by
      obtain ⟨v, vs, rfl, ⟨c, r, rfl⟩, e⟩ := k
      obtain rfl : vs = [] := e
      simp only [Rep] at r
      subst r
      rfl⟩)
theorem fnExactWayDel_holds : Rows.FnExactWayDelSaid :=
  OpenClaim.holds_of_wide 6 Try.f6 rfl rfl rfl rfl rfl rfl rfl ⟨rfl, rfl, rfl, rfl, rfl⟩ rfl rfl rfl rfl rfl (by kernel_rfl) Try.func6 (by kernel_rfl)
    (of_decide_eq_true (by kernel_rfl)) (by unfold Func.isWrapper; first | (rw [if_pos (by decide +kernel)]; kernel_rfl) | (rw [if_neg (by decide +kernel)]; exact ⟨rfl, rfl⟩))
    (fun os started H enc _ => fnExactWayDel_lifted os started H enc)
#print axioms fnExactWayDel_holds
end Go.Proofs.Ytjjcilkcffigeaa


/- The row FnSkipSeeks holds: for all bytes the law returns true and the argument reads as before. No condition. -/
import Derived.Test.YtjjcilkcffigeaaAPFnSkipSeeks1
set_option linter.unusedVariables false
set_option linter.unusedSimpArgs false
set_option linter.unusedSectionVars false
namespace Go.G
open Go Go.V
theorem br_t {R : Type} {a b : Option R} : br true a b = a := rfl
theorem br_f {R : Type} {a b : Option R} : br false a b = b := rfl
theorem br_pos {R : Type} {a b : Option R} {p : Prop} [Decidable p] (h : p) : br (decide p) a b = a := by simp [br, h]
theorem br_neg {R : Type} {a b : Option R} {p : Prop} [Decidable p] (h : ¬ p) : br (decide p) a b = b := by simp [br, h]
theorem bindD_some {α R : Type} {a : α} {f : α → Option R} : bindD (some a) f = f a := rfl
theorem br_same {R : Type} {c : Bool} {a : Option R} : br c a a = a := by cases c <;> rfl
theorem br_ite {R : Type} {c : Bool} {a b : Option R} : br c a b = if c = true then a else b := by cases c <;> rfl
theorem wrap_form (x : Int) : IntKind.wrap IntKind.i64 x = if x % 18446744073709551616 ≥ 9223372036854775808 then x % 18446744073709551616 - 18446744073709551616 else x % 18446744073709551616 := by
  by_cases h : x % 18446744073709551616 ≥ 9223372036854775808 <;> simp [IntKind.wrap, IntKind.signed, IntKind.bits, h]
theorem wrap_id {x : Int} (h1 : -9223372036854775808 ≤ x) (h2 : x ≤ 9223372036854775807) : IntKind.wrap IntKind.i64 x = x := by
  rw [wrap_form]
  split <;> omega
theorem wrap_lo (x : Int) : -9223372036854775808 ≤ IntKind.wrap IntKind.i64 x ∧ IntKind.wrap IntKind.i64 x ≤ 9223372036854775807 := by
  rw [wrap_form]
  split <;> omega
def W : Nat := 9223372036854775808
theorem W_def : W = 9223372036854775808 := rfl
theorem maxLen_def : maxLen = 9223372036854775807 := rfl
theorem bound_def : bound = 274877906944 := rfl
theorem ix {α : Type} {l : List α} {i : Nat} (h : i < l.length) : (decide (0 ≤ (i : Int)) && decide ((i : Int) < (l.length : Int))) = true := by
  simp only [Bool.and_eq_true, decide_eq_true_eq]; omega
theorem ixn {α : Type} {l : List α} {i : Int} (h0 : 0 ≤ i) (h : i < l.length) : (decide (0 ≤ i) && decide (i < (l.length : Int))) = true := by
  simp only [Bool.and_eq_true, decide_eq_true_eq]; omega
theorem wrap_succ {i : Nat} (h : i < 9223372036854775807) : IntKind.wrap IntKind.i64 ((i : Int) + 1) = ((i + 1 : Nat) : Int) := by
  rw [wrap_id] <;> omega
theorem getD_lt {α : Type} {l : List α} {i : Nat} {d : α} (h : i < l.length) : l.getD i d = l[i] := by
  simp [List.getD, h]
theorem drop_cons {α : Type} {l : List α} {i : Nat} (h : i < l.length) : l.drop i = l[i] :: l.drop (i + 1) := List.drop_eq_getElem_cons h
theorem drop_end {α : Type} {l : List α} {i : Nat} (h : ¬ i < l.length) : l.drop i = [] := List.drop_eq_nil_of_le (by omega)
def tot : (t : Ty) → t.den → Nat
  | .unit, _ => 0
  | .int _, _ => 0
  | .bool, _ => 0
  | .str, s => s.size
  | .sl t, xs => xs.length + (xs.map (tot t)).sum
  | .pair a b, x => tot a x.1 + tot b x.2
def left (t : Ty) (a : t.den) (k : Int) : Int := if (tot t a : Int) ≤ k then k - tot t a else -1
theorem sum_drop {l : List Nat} {i : Nat} (h : i < l.length) : (l.drop i).sum = l[i] + (l.drop (i + 1)).sum := by
  rw [drop_cons h, List.sum_cons]
theorem map_drop_sum {α : Type} {f : α → Nat} {l : List α} {i : Nat} (h : i < l.length) : ((l.drop i).map f).sum = f l[i] + ((l.drop (i + 1)).map f).sum := by
  rw [drop_cons h, List.map_cons, List.sum_cons]
theorem tot_mem {t : Ty} : ∀ {xs : List t.den} {x : t.den}, x ∈ xs → tot t x + xs.length ≤ tot (.sl t) xs
  | y :: xs, x, h => by
    simp only [tot, List.length_cons, List.map_cons, List.sum_cons]
    rcases List.mem_cons.1 h with rfl | h
    · have : xs.length ≤ xs.length + (xs.map (tot t)).sum := by omega
      omega
    · have := tot_mem h
      simp only [tot] at this
      omega
theorem beq_bytes {a b : ByteArray} : List.beq a.toList b.toList = decide (a = b) := by
  have h1 : List.beq a.toList b.toList = decide (a.toList = b.toList) := by
    have : (a.toList == b.toList) = decide (a.toList = b.toList) := by
      by_cases h : a.toList = b.toList <;> simp [h]
    exact this
  rw [h1]
  by_cases h : a = b
  · simp [h]
  · have : a.toList ≠ b.toList := fun e => h (by
      have h2 : a.data.toList = b.data.toList := by
        have := e
        simpa [ByteArray.toList_eq] using this
      cases a; cases b
      simp only [ByteArray.mk.injEq]
      exact Array.toList_inj.1 h2)
    simp [h, this]
end Go.G

namespace Go.G
open Go Go.V
abbrev IntsT : Ty := .sl (.int .i64)
theorem tot_ints (a : List Int) : tot IntsT a = a.length := by
  have : ∀ l : List Int, (l.map fun _ => 0).sum = 0 := by
    intro l; induction l with
    | nil => rfl
    | cons x l ih => simp [ih]
  have e : (a.map (tot (.int .i64))) = a.map fun _ => 0 := by
    apply List.map_congr_left; intro x _; simp only [tot]
  show a.length + (a.map (tot (.int .i64))).sum = a.length
  rw [e, this]; omega
theorem take_set {α : Type} {l : List α} {i : Nat} {x : α} (h : i < l.length) : (l.set i x).take (i + 1) = l.take i ++ [x] := by
  rw [List.take_add_one, List.take_set_of_le (Nat.le_refl _)]
  simp [List.getElem?_set, h]
theorem eqIntS_L (D : Den ctx) (n : Nat) (K0 : Bool → Option ((Bool × Unit) × Unit)) (K1 : Option ((Bool × Unit) × Unit)) : ∀ (m i : Nat) (a b : List Int), a.length = b.length → a.length ≤ maxLen → i ≤ a.length → a.length - i < m →
    laws_eqIntS_L0 D n K0 K1 m a b i = if a.drop i = b.drop i then K1 else K0 false
  | 0, _, _, _, _, _, _, h => by omega
  | m + 1, i, a, b, hl, hm, hi, hk => by
    simp only [laws_eqIntS_L0, laws_eqIntS_b0]
    rw [maxLen_def] at hm
    by_cases h : i < a.length
    · rw [br_pos (by exact_mod_cast h), ix h, br_t, ix (hl ▸ h), br_t, wrap_succ (by omega), Int.toNat_natCast, getD_lt h, getD_lt (hl ▸ h), drop_cons h, drop_cons (hl ▸ h : i < b.length)]
      by_cases e : a[i] = b[i]'(hl ▸ h)
      · rw [e]
        simp only [bne_self_eq_false, br_f, List.cons.injEq, true_and]
        exact eqIntS_L D n K0 K1 m (i + 1) a b hl (by rw [maxLen_def]; omega) (by omega) (by omega)
      · have : (a[i] != b[i]'(hl ▸ h)) = true := by simp [e]
        rw [this, br_t]; simp only [List.cons.injEq, e, false_and, if_false]
    · rw [br_neg (by exact_mod_cast h), drop_end h, drop_end (hl ▸ h)]; rfl
theorem c_eqIntS {X : Ext} (hX : XOk X) {n : Nat} (hn : W + 1 ≤ n) (a b : List Int) (hb : b.length ≤ maxLen) : C_laws_eqIntS (DD X n) a b = some ((decide (a = b), ()), ()) := by
  obtain ⟨n, rfl⟩ : ∃ k, n = k + 1 := ⟨n - 1, by omega⟩
  rw [S_laws_eqIntS hX]
  simp only [F_laws_eqIntS, laws_eqIntS_e, laws_eqIntS_LP0]
  by_cases h : a.length = b.length
  · have e : ((a.length : Int) != (b.length : Int)) = false := by simp [h]
    rw [e, br_f]
    have := eqIntS_L (DD X n) n (fun v => laws_eqIntS_x0_0 (DD X n) n v) (laws_eqIntS_x0_1 (DD X n) n) n 0 a b h (by omega) (by omega) (by have := W_def; have := maxLen_def; omega)
    rw [show ((0 : Nat) : Int) = 0 from rfl] at this
    rw [this]
    simp only [List.drop_zero, laws_eqIntS_x0_0, laws_eqIntS_x0_1]
    by_cases h : a = b <;> simp [h]
  · have e : ((a.length : Int) != (b.length : Int)) = true := by simp; omega
    have : a ≠ b := fun h2 => h (by rw [h2])
    rw [e, br_t]; simp [this]
theorem toIntS_L (D : Den ctx) (n : Nat) (K : List Int → Option ((List Int × Unit) × Unit)) : ∀ (m i : Nat) (a c : List Int), a.length = c.length → a.length ≤ maxLen → i ≤ a.length → a.length - i < m →
    laws_toIntS_L0 D n K m a i c = K (c.take i ++ a.drop i)
  | 0, _, _, _, _, _, _, h => by omega
  | m + 1, i, a, c, hl, hm, hi, hk => by
    simp only [laws_toIntS_L0, laws_toIntS_b0]
    rw [maxLen_def] at hm
    by_cases h : i < a.length
    · rw [br_pos (by exact_mod_cast h), ix h, br_t, ix (hl ▸ h), br_t, wrap_succ (by omega), Int.toNat_natCast, getD_lt h, toIntS_L D n K m (i + 1) a _ (by simp [hl]) (by rw [maxLen_def]; omega) (by omega) (by omega)]
      congr 1
      rw [drop_cons h, take_set (hl ▸ h), List.append_assoc]; rfl
    · rw [br_neg (by exact_mod_cast h), drop_end h, List.take_of_length_le (by omega), List.append_nil]
theorem to_cond {a : Nat} (h : a ≤ bound) : (decide (0 ≤ (a : Int)) && decide ((a : Int) ≤ (a : Int)) && decide ((a : Int) ≤ ((bound : Nat) : Int))) = true := by
  simp only [Bool.and_eq_true, decide_eq_true_eq]; omega
theorem c_toIntS {X : Ext} (hX : XOk X) {n : Nat} (hn : W + 1 ≤ n) (a : List Int) (ha : a.length ≤ bound) : C_laws_toIntS (DD X n) a = some ((a, ()), ()) := by
  obtain ⟨n, rfl⟩ : ∃ k, n = k + 1 := ⟨n - 1, by omega⟩
  rw [S_laws_toIntS hX]
  simp only [F_laws_toIntS, laws_toIntS_e, laws_toIntS_LP0]
  rw [to_cond ha, br_t]
  have h1 := bound_def
  have := toIntS_L (DD X n) n (fun v => laws_toIntS_x0_0 (DD X n) n v) n 0 a (List.replicate (Int.toNat (a.length : Int)) 0) (by simp) (by rw [maxLen_def]; omega) (by omega) (by have := W_def; omega)
  rw [show ((0 : Nat) : Int) = 0 from rfl] at this
  rw [this]
  simp only [List.take_zero, List.drop_zero, List.nil_append, laws_toIntS_x0_0]
theorem c_szIntS {X : Ext} (hX : XOk X) {n : Nat} (hn : W + 1 ≤ n) (a : List Int) (k : Int) (ha : a.length ≤ maxLen) (hk : 0 ≤ k ∧ k ≤ maxLen) : C_laws_szIntS (DD X n) a k = some ((left IntsT a k, ()), ()) := by
  obtain ⟨n, rfl⟩ : ∃ k, n = k + 1 := ⟨n - 1, by omega⟩
  rw [maxLen_def] at ha hk
  rw [S_laws_szIntS hX]
  simp only [F_laws_szIntS, laws_szIntS_e, left, tot_ints]
  rw [wrap_id (by omega) (by omega)]
  by_cases h : k - (a.length : Int) < 0
  · rw [br_pos h, if_neg (by omega)]
  · rw [br_neg h, if_pos (by omega)]
def markInts : Int → List Int → List Int
  | _, [] => []
  | k, _ :: l => k :: markInts (k + 1) l
theorem markInts_len : ∀ (l : List Int) (k : Int), (markInts k l).length = l.length
  | [], _ => rfl
  | _ :: l, k => by simp [markInts, markInts_len l]
theorem markIntS_L (D : Den ctx) (n : Nat) (K : Int → List Int → Option ((Int × Unit) × List Int × Unit)) : ∀ (m i : Nat) (k : Int) (a : List Int), a.length ≤ maxLen → i ≤ a.length → a.length - i < m → 0 ≤ k → k + (a.length - i) ≤ maxLen →
    laws_markIntS_L0 D n K m k i a = K (k + (a.length - i)) (a.take i ++ markInts k (a.drop i))
  | 0, _, _, _, _, _, h, _, _ => by omega
  | m + 1, i, k, a, hm, hi, hf, hk, hkl => by
    simp only [laws_markIntS_L0, laws_markIntS_b0]
    have hd := maxLen_def
    by_cases h : i < a.length
    · rw [br_pos (by exact_mod_cast h), ix h, br_t, wrap_succ (by omega), wrap_id (by omega) (by omega), Int.toNat_natCast]
      rw [markIntS_L D n K m (i + 1) (k + 1) _ (by simpa using hm) (by simp; omega) (by simp; omega) (by omega) (by simp only [List.length_set]; omega), take_set h, drop_cons h, List.drop_set_of_lt (by omega)]
      simp only [List.length_set, List.append_assoc, markInts, List.singleton_append]
      congr 1
      omega
    · rw [br_neg (by exact_mod_cast h), drop_end h, List.take_of_length_le (by omega)]
      simp only [markInts, List.append_nil]
      congr 1
      omega
theorem c_markIntS {X : Ext} (hX : XOk X) {n : Nat} (hn : W + 1 ≤ n) (a : List Int) (k : Int) (hk : 0 ≤ k) (h : k + a.length ≤ maxLen) : C_laws_markIntS (DD X n) a k = some ((k + a.length, ()), (markInts k a, ())) := by
  obtain ⟨n, rfl⟩ : ∃ k, n = k + 1 := ⟨n - 1, by omega⟩
  have hd := maxLen_def
  rw [S_laws_markIntS hX]
  simp only [F_laws_markIntS, laws_markIntS_e, laws_markIntS_LP0]
  have := markIntS_L (DD X n) n (fun v w => laws_markIntS_x0_0 (DD X n) n v w) n 0 k a (by omega) (by omega) (by have := W_def; omega) hk (by omega)
  rw [show ((0 : Nat) : Int) = 0 from rfl] at this
  rw [this]
  simp only [List.take_zero, List.drop_zero, List.nil_append, laws_markIntS_x0_0, Int.sub_zero]
theorem heldIntS_L (D : Den ctx) (n : Nat) (K0 : Int → Int → Option ((Int × Unit) × Unit)) (K1 : Int → Option ((Int × Unit) × Unit)) : ∀ (m i : Nat) (k k0 : Int) (a l : List Int), a.length ≤ maxLen → i ≤ a.length → a.length - i < m → 0 ≤ k → k + (a.length - i) ≤ maxLen →
    a.drop i = markInts k l → laws_heldIntS_L0 D n K0 K1 m a k i = K1 (k + (a.length - i))
  | 0, _, _, _, _, _, _, _, h, _, _, _ => by omega
  | m + 1, i, k, k0, a, l, hm, hi, hf, hk, hkl, hl => by
    simp only [laws_heldIntS_L0, laws_heldIntS_b0]
    have hd := maxLen_def
    by_cases h : i < a.length
    · rw [br_pos (by exact_mod_cast h), ix h, br_t, wrap_succ (by omega), wrap_id (by omega) (by omega), Int.toNat_natCast, getD_lt h]
      rw [drop_cons h] at hl
      cases l with
      | nil => simp [markInts] at hl; omega
      | cons x l =>
        simp only [markInts, List.cons.injEq] at hl
        rw [hl.1, bne_self_eq_false, br_f]
        rw [heldIntS_L D n K0 K1 m (i + 1) (k + 1) k0 a l hm (by omega) (by omega) (by omega) (by omega) hl.2]
        congr 1
        omega
    · rw [br_neg (by exact_mod_cast h)]
      congr 1
      omega
theorem c_heldIntS {X : Ext} (hX : XOk X) {n : Nat} (hn : W + 1 ≤ n) (a : List Int) (k : Int) (hk : 0 ≤ k) (h : k + a.length ≤ maxLen) : C_laws_heldIntS (DD X n) (markInts k a) k = some ((k + a.length, ()), ()) := by
  obtain ⟨n, rfl⟩ : ∃ k, n = k + 1 := ⟨n - 1, by omega⟩
  have hd := maxLen_def
  rw [S_laws_heldIntS hX]
  simp only [F_laws_heldIntS, laws_heldIntS_e, laws_heldIntS_LP0]
  have hml := markInts_len a k
  have := heldIntS_L (DD X n) n (fun v w => laws_heldIntS_x0_0 (DD X n) n v w) (fun v => laws_heldIntS_x0_1 (DD X n) n v) n 0 k k (markInts k a) a (by omega) (by omega) (by have := W_def; omega) hk (by omega) (by simp)
  rw [show ((0 : Nat) : Int) = 0 from rfl] at this
  rw [this]
  simp only [laws_heldIntS_x0_1, Int.sub_zero, hml]
def mdigit (x : Int) : ByteArray := ByteArray.mk (List.toArray (List.map (fun n ↦ UInt8.ofNat (Int.toNat n)) [IntKind.wrap IntKind.u8 (IntKind.wrap IntKind.i64 (48 + Int.tmod x 10))]))
def mdigits : Nat → Int → ByteArray → ByteArray
  | 0, _, s => s
  | f + 1, x, s => if x > 0 then mdigits f (Int.tdiv x 10) (ByteArray.append (mdigit x) s) else s
def mtext (k : Int) : ByteArray := if k ≤ 0 then ByteArray.mk #[UInt8.ofNat 109, UInt8.ofNat 48] else ByteArray.append (ByteArray.mk #[UInt8.ofNat 109]) (mdigits 19 k (ByteArray.mk #[]))
theorem append_size (a b : ByteArray) : (ByteArray.append a b).size = a.size + b.size := ByteArray.size_append
theorem mdigit_size (x : Int) : (mdigit x).size = 1 := rfl
theorem mdigits_size : ∀ (f : Nat) (x : Int) (s : ByteArray), (mdigits f x s).size ≤ s.size + f
  | 0, _, s => by simp [mdigits]
  | f + 1, x, s => by
    simp only [mdigits]
    split
    · have := mdigits_size f (Int.tdiv x 10) (ByteArray.append (mdigit x) s)
      rw [append_size, mdigit_size] at this
      omega
    · omega
theorem markText_L (D : Den ctx) (n : Nat) (K : ByteArray → Option ((ByteArray × Unit) × Unit)) : ∀ (f m : Nat) (x : Int) (s : ByteArray), f < m → 0 ≤ x → x < 10 ^ f → x ≤ maxLen → s.size + f ≤ 2 ^ 47 → laws_markText_L0 D n K m x s = K (mdigits f x s)
  | f, 0, _, _, h, _, _, _, _ => by omega
  | 0, m + 1, x, s, _, h0, hx, _, _ => by
    simp only [laws_markText_L0, laws_markText_b0, mdigits]
    rw [br_neg (by simp at hx; omega)]
  | f + 1, m + 1, x, s, hf, h0, hx, hm, hs => by
    simp only [laws_markText_L0, laws_markText_b0, mdigits]
    have hd := maxLen_def
    by_cases h : x > 0
    · rw [br_pos h, if_pos h, br_pos (by show (mdigit x).size + s.size ≤ Nat.pow 2 47; rw [mdigit_size]; show 1 + s.size ≤ 2 ^ 47; omega)]
      have e : Int.tdiv x 10 = x / 10 := Int.tdiv_eq_ediv_of_nonneg h0
      rw [wrap_id (by rw [e]; omega) (by rw [e]; omega)]
      refine markText_L D n K f m _ _ (by omega) (by rw [e]; omega) ?_ (by rw [e]; omega) ?_
      · rw [e]
        have : (10 : Int) ^ (f + 1) = 10 ^ f * 10 := Int.pow_succ ..
        omega
      · show (ByteArray.append (mdigit x) s).size + f ≤ 2 ^ 47
        rw [append_size, mdigit_size]; omega
    · rw [br_neg h, if_neg h]
theorem c_markText {X : Ext} (hX : XOk X) {n : Nat} (hn : W + 1 ≤ n) (k : Int) (hk : k ≤ maxLen) : C_laws_markText (DD X n) k = some ((mtext k, ()), ()) := by
  obtain ⟨n, rfl⟩ : ∃ k, n = k + 1 := ⟨n - 1, by omega⟩
  have hd := maxLen_def
  rw [S_laws_markText hX]
  simp only [F_laws_markText, laws_markText_e, laws_markText_LP0, mtext]
  by_cases h : k ≤ 0
  · rw [br_pos h, if_pos h]
  · rw [br_neg h, if_neg h, markText_L (DD X n) n _ 19 n k _ (by have := W_def; omega) (by omega) (by omega) hk (by show 0 + 19 ≤ 2 ^ 47; decide)]
    simp only [laws_markText_x0_0]
    have h1 := mdigits_size 19 k (ByteArray.mk #[])
    have h2 : (ByteArray.mk #[]).size = 0 := rfl
    rw [br_pos]
    show 1 + (mdigits 19 k (ByteArray.mk #[])).size ≤ 2 ^ 47
    omega
end Go.G

namespace Go.G
open Go Go.V
def mkL {α : Type} (f : Int → α → Int × α) : Int → List α → Int × List α
  | k, [] => (k, [])
  | k, x :: l => ((mkL f (f k x).1 l).1, (f k x).2 :: (mkL f (f k x).1 l).2)
def mkT : (t : Ty) → Int → t.den → Int × t.den
  | .unit, k, x => (k, x)
  | .int _, k, _ => (k + 1, k)
  | .bool, k, _ => (k + 1, decide (Int.tmod k 3 = 0))
  | .str, k, _ => (k + 1, mtext k)
  | .sl t, k, xs => mkL (mkT t) k xs
  | .pair a b, k, x => ((mkT b (mkT a k x.1).1 x.2).1, ((mkT a k x.1).2, (mkT b (mkT a k x.1).1 x.2).2))
def cnt : (t : Ty) → t.den → Nat
  | .unit, _ => 0
  | .int _, _ => 1
  | .bool, _ => 1
  | .str, _ => 1
  | .sl t, xs => (xs.map (cnt t)).sum
  | .pair a b, x => cnt a x.1 + cnt b x.2
theorem mkL_cnt {t : Ty} (h : ∀ k x, (mkT t k x).1 = k + cnt t x) : ∀ (k : Int) (xs : List t.den), (mkL (mkT t) k xs).1 = k + ((xs.map (cnt t)).sum : Nat)
  | k, [] => by simp [mkL]
  | k, x :: l => by
    simp only [mkL, mkL_cnt h, h, List.map_cons, List.sum_cons]
    omega
theorem mkT_cnt : ∀ (t : Ty) (k : Int) (x : t.den), (mkT t k x).1 = k + cnt t x
  | .unit, k, x => by simp [mkT, cnt]
  | .int _, k, _ => by simp [mkT, cnt]
  | .bool, k, _ => by simp [mkT, cnt]
  | .str, k, _ => by simp [mkT, cnt]
  | .sl t, k, xs => by simp only [mkT, cnt]; exact mkL_cnt (mkT_cnt t) k xs
  | .pair a b, k, x => by simp only [mkT, cnt, mkT_cnt a, mkT_cnt b]; omega
theorem mkL_len {α : Type} {f : Int → α → Int × α} : ∀ (k : Int) (xs : List α), (mkL f k xs).2.length = xs.length
  | _, [] => rfl
  | k, x :: l => by simp [mkL, mkL_len]
theorem cnt_mem {t : Ty} : ∀ {xs : List t.den} {i : Nat} (h : i < xs.length), cnt t xs[i] + ((xs.drop (i + 1)).map (cnt t)).sum = ((xs.drop i).map (cnt t)).sum := by
  intro xs i h; rw [map_drop_sum h]
theorem tot_sl {t : Ty} (a : List t.den) : tot (.sl t) a = a.length + (a.map (tot t)).sum := rfl
theorem cnt_sl {t : Ty} (a : List t.den) : cnt (.sl t) a = (a.map (cnt t)).sum := rfl
theorem left_pos {t : Ty} {a : t.den} {k : Int} (h : (tot t a : Int) ≤ k) : left t a k = k - tot t a := if_pos h
theorem left_neg {t : Ty} {a : t.den} {k : Int} (h : ¬ (tot t a : Int) ≤ k) : left t a k = -1 := if_neg h
theorem left_nonneg {t : Ty} {a : t.den} {k : Int} (h : ¬ left t a k < 0) (hk : 0 ≤ k) : left t a k = k - tot t a ∧ (tot t a : Int) ≤ k := by
  unfold left at h ⊢
  split at h
  · rename_i h1; rw [if_pos h1]; exact ⟨rfl, h1⟩
  · omega
theorem getD_set_same {α : Type} {l : List α} {i : Nat} {x d : α} (h : i < l.length) : (l.set i x).getD i d = x := by
  simp [List.getD, h]
theorem markInts_mk : ∀ (k : Int) (a : List Int), mkT IntsT k a = (k + a.length, markInts k a)
  | k, [] => by simp [mkT, mkL, markInts]
  | k, x :: a => by
    have := markInts_mk (k + 1) a
    simp only [mkT] at this
    simp only [mkT, mkL, markInts, this, List.length_cons]
    congr 1
    omega
theorem cnt_ints (a : List Int) : cnt IntsT a = a.length := by
  have h1 := mkT_cnt IntsT 0 a
  rw [markInts_mk] at h1
  simp only at h1
  omega
theorem m_markIntS {X : Ext} (hX : XOk X) {n : Nat} (hn : W + 1 ≤ n) (a : List Int) (k : Int) (hk : 0 ≤ k) (h : k + cnt IntsT a ≤ maxLen) : C_laws_markIntS (DD X n) a k = some (((mkT IntsT k a).1, ()), ((mkT IntsT k a).2, ())) := by
  rw [markInts_mk]; rw [cnt_ints] at h; exact c_markIntS hX hn a k hk h
theorem m_heldIntS {X : Ext} (hX : XOk X) {n : Nat} (hn : W + 1 ≤ n) (a : List Int) (k : Int) (hk : 0 ≤ k) (h : k + cnt IntsT a ≤ maxLen) : C_laws_heldIntS (DD X n) (mkT IntsT k a).2 k = some (((mkT IntsT k a).1, ()), ()) := by
  rw [markInts_mk]; rw [cnt_ints] at h; exact c_heldIntS hX hn a k hk h
theorem br_lends {R : Type} {t t2 : Ty} {m m' : Mk} {l : List AV} {r : Nat} {p : Path} {s : Nat} {v : AV} {a b : Option R} (h : l = [.brw r p s, v]) : br (lendsOk [.mutv t m m', .val t2] l) a b = a := by
  subst h
  simp [lendsOk, placeOf, pathsOk, br]
end Go.G

namespace Go.G
open Go Go.V
abbrev StrsT : Ty := .sl .str
theorem eqStringS_L (D : Den ctx) (n : Nat) (K0 : Bool → Option ((Bool × Unit) × Unit)) (K1 : Option ((Bool × Unit) × Unit)) : ∀ (m i : Nat) (a b : List ByteArray), a.length = b.length → a.length ≤ maxLen → i ≤ a.length → a.length - i < m →
    laws_eqStringS_L0 D n K0 K1 m a b i = if a.drop i = b.drop i then K1 else K0 false
  | 0, _, _, _, _, _, _, h => by omega
  | m + 1, i, a, b, hl, hm, hi, hk => by
    simp only [laws_eqStringS_L0, laws_eqStringS_b0]
    have hd := maxLen_def
    by_cases h : i < a.length
    · rw [br_pos (by exact_mod_cast h), ix h, br_t, ix (hl ▸ h), br_t, wrap_succ (by omega), Int.toNat_natCast, getD_lt h, getD_lt (hl ▸ h), drop_cons h, drop_cons (hl ▸ h : i < b.length), beq_bytes]
      by_cases e : a[i] = b[i]'(hl ▸ h)
      · simp only [e, decide_true, Bool.not_true, br_f, List.cons.injEq, true_and]
        exact eqStringS_L D n K0 K1 m (i + 1) a b hl hm (by omega) (by omega)
      · simp only [e, decide_false, Bool.not_false, br_t, List.cons.injEq, false_and, if_false]
    · rw [br_neg (by exact_mod_cast h), drop_end h, drop_end (hl ▸ h)]; rfl
theorem c_eqStringS {X : Ext} (hX : XOk X) {n : Nat} (hn : W + 1 ≤ n) (a b : List ByteArray) (hb : b.length ≤ maxLen) : C_laws_eqStringS (DD X n) a b = some ((decide (a = b), ()), ()) := by
  obtain ⟨n, rfl⟩ : ∃ k, n = k + 1 := ⟨n - 1, by omega⟩
  rw [S_laws_eqStringS hX]
  simp only [F_laws_eqStringS, laws_eqStringS_e, laws_eqStringS_LP0]
  by_cases h : a.length = b.length
  · have e : ((a.length : Int) != (b.length : Int)) = false := by simp [h]
    rw [e, br_f]
    have := eqStringS_L (DD X n) n (fun v => laws_eqStringS_x0_0 (DD X n) n v) (laws_eqStringS_x0_1 (DD X n) n) n 0 a b h (by omega) (by omega) (by have := W_def; have := maxLen_def; omega)
    rw [show ((0 : Nat) : Int) = 0 from rfl] at this
    rw [this]
    simp only [List.drop_zero, laws_eqStringS_x0_0, laws_eqStringS_x0_1]
    by_cases h : a = b <;> simp [h]
  · have e : ((a.length : Int) != (b.length : Int)) = true := by simp; omega
    have : a ≠ b := fun h2 => h (by rw [h2])
    rw [e, br_t]; simp [this]
theorem cnt_strs : ∀ (a : List ByteArray), cnt StrsT a = a.length
  | [] => rfl
  | x :: a => by
    have := cnt_strs a
    rw [cnt_sl] at this ⊢
    rw [List.map_cons, List.sum_cons, this, List.length_cons]
    simp only [cnt]; omega
theorem markStringS_L {X : Ext} (hX : XOk X) (N n : Nat) (hN : W + 1 ≤ N) (K : Int → List ByteArray → Option ((Int × Unit) × List ByteArray × Unit)) : ∀ (m i : Nat) (k : Int) (a : List ByteArray), a.length ≤ maxLen → i ≤ a.length → a.length - i < m → 0 ≤ k → k + (a.length - i) ≤ maxLen →
    laws_markStringS_L0 (DD X N) n K m k i a = K (mkL (mkT .str) k (a.drop i)).1 (a.take i ++ (mkL (mkT .str) k (a.drop i)).2)
  | 0, _, _, _, _, _, h, _, _ => by omega
  | m + 1, i, k, a, hm, hi, hf, hk, hkl => by
    simp only [laws_markStringS_L0, laws_markStringS_b0]
    have hd := maxLen_def
    by_cases h : i < a.length
    · rw [br_pos (by exact_mod_cast h), c_markText hX hN k (by omega), bindD_some, ix h, br_t, Int.toNat_natCast, wrap_id (by omega) (by omega), wrap_succ (by omega)]
      have e := markStringS_L hX N n hN K m (i + 1) (k + 1) (a.set i (mtext k)) (by simpa using hm) (by simp; omega) (by simp; omega) (by omega) (by simp only [List.length_set]; omega)
      refine Eq.trans e ?_
      rw [take_set h, drop_cons h, List.drop_set_of_lt (by omega), List.append_assoc]
      rfl
    · rw [br_neg (by exact_mod_cast h), drop_end h, List.take_of_length_le (by omega)]
      simp only [mkL, List.append_nil]
theorem m_markStringS {X : Ext} (hX : XOk X) {n : Nat} (hn : W + 2 ≤ n) (a : List ByteArray) (k : Int) (hk : 0 ≤ k) (h : k + a.length ≤ maxLen) :
    C_laws_markStringS (DD X n) a k = some (((mkT StrsT k a).1, ()), ((mkT StrsT k a).2, ())) := by
  obtain ⟨n, rfl⟩ : ∃ k, n = k + 1 := ⟨n - 1, by omega⟩
  have hd := maxLen_def
  rw [S_laws_markStringS hX]
  simp only [F_laws_markStringS, laws_markStringS_e, laws_markStringS_LP0]
  have := markStringS_L hX n n (by omega) (fun v w => laws_markStringS_x0_0 (DD X n) n v w) n 0 k a (by omega) (by omega) (by have := W_def; omega) hk (by omega)
  rw [show ((0 : Nat) : Int) = 0 from rfl] at this
  rw [this]
  simp only [List.take_zero, List.drop_zero, List.nil_append, laws_markStringS_x0_0, mkT]
theorem heldStringS_L {X : Ext} (hX : XOk X) (N n : Nat) (hN : W + 1 ≤ N) (K0 : Int → Int → Option ((Int × Unit) × Unit)) (K1 : Int → Option ((Int × Unit) × Unit)) : ∀ (m i : Nat) (k : Int) (a l : List ByteArray), a.length ≤ maxLen → i ≤ a.length → a.length - i < m → 0 ≤ k → k + (a.length - i) ≤ maxLen →
    a.drop i = (mkL (mkT .str) k l).2 → laws_heldStringS_L0 (DD X N) n K0 K1 m a k i = K1 (mkL (mkT .str) k l).1
  | 0, _, _, _, _, _, _, h, _, _, _ => by omega
  | m + 1, i, k, a, l, hm, hi, hf, hk, hkl, hl => by
    simp only [laws_heldStringS_L0, laws_heldStringS_b0]
    have hd := maxLen_def
    by_cases h : i < a.length
    · rw [drop_cons h] at hl
      cases l with
      | nil => simp [mkL] at hl; omega
      | cons x l =>
        simp only [mkL, List.cons.injEq] at hl
        obtain ⟨hx, hl⟩ := hl
        have hx1 : a[i] = mtext k := hx
        rw [br_pos (by exact_mod_cast h), ix h, br_t, c_markText hX hN k (by omega), bindD_some, Int.toNat_natCast, getD_lt h, hx1, beq_bytes]
        simp only [decide_true, Bool.not_true, br_f]
        rw [wrap_id (by omega) (by omega), wrap_succ (by omega)]
        exact heldStringS_L hX N n hN K0 K1 m (i + 1) (k + 1) a l hm (by omega) (by omega) (by omega) (by omega) hl
    · rw [br_neg (by exact_mod_cast h)]
      rw [drop_end h] at hl
      cases l with
      | nil => rfl
      | cons x l => simp [mkL] at hl
theorem m_heldStringS {X : Ext} (hX : XOk X) {n : Nat} (hn : W + 2 ≤ n) (a : List ByteArray) (k : Int) (hk : 0 ≤ k) (h : k + a.length ≤ maxLen) :
    C_laws_heldStringS (DD X n) (mkT StrsT k a).2 k = some (((mkT StrsT k a).1, ()), ()) := by
  obtain ⟨n, rfl⟩ : ∃ k, n = k + 1 := ⟨n - 1, by omega⟩
  have hd := maxLen_def
  rw [S_laws_heldStringS hX]
  simp only [F_laws_heldStringS, laws_heldStringS_e, laws_heldStringS_LP0]
  have hml : (mkT StrsT k a).2.length = a.length := mkL_len k a
  have := heldStringS_L hX n n (by omega) (fun v w => laws_heldStringS_x0_0 (DD X n) n v w) (fun v => laws_heldStringS_x0_1 (DD X n) n v) n 0 k (mkT StrsT k a).2 a (by omega) (by omega) (by have := W_def; omega) hk (by omega) (by simp [mkT])
  rw [show ((0 : Nat) : Int) = 0 from rfl] at this
  rw [this]
  simp only [laws_heldStringS_x0_1, mkT]
end Go.G

namespace Go.G
open Go Go.V
abbrev LaneT : Ty := .pair .str (.pair (.sl (.int .i64)) .unit)
abbrev Lane := ByteArray × List Int × Unit
theorem c_eqLane {X : Ext} (hX : XOk X) {n : Nat} (hn : W + 2 ≤ n) (a b : Lane) (hb : b.2.1.length ≤ maxLen) : C_laws_eqLane (DD X n) a b = some ((decide (a = b), ()), ()) := by
  obtain ⟨n, rfl⟩ : ∃ k, n = k + 1 := ⟨n - 1, by omega⟩
  rw [S_laws_eqLane hX]
  obtain ⟨a1, a2, ⟨⟩⟩ := a
  obtain ⟨b1, b2, ⟨⟩⟩ := b
  simp only [F_laws_eqLane, laws_eqLane_e, beq_bytes]
  rw [c_eqIntS hX (by omega) _ _ hb, bindD_some]
  by_cases h1 : a1 = b1 <;> by_cases h2 : a2 = b2 <;> simp [h1, h2, br]
theorem eqLaneS_L (D : Den ctx) (n : Nat) (K0 : Bool → Option ((Bool × Unit) × Unit)) (K1 : Option ((Bool × Unit) × Unit)) : ∀ (m i : Nat) (a b : List Lane), (∀ x y, y ∈ b → C_laws_eqLane D x y = some ((decide (x = y), ()), ())) →
    a.length = b.length → a.length ≤ maxLen → i ≤ a.length → a.length - i < m → laws_eqLaneS_L0 D n K0 K1 m a b i = if a.drop i = b.drop i then K1 else K0 false
  | 0, _, _, _, _, _, _, _, h => by omega
  | m + 1, i, a, b, he, hl, hm, hi, hk => by
    simp only [laws_eqLaneS_L0, laws_eqLaneS_b0]
    have hd := maxLen_def
    by_cases h : i < a.length
    · rw [br_pos (by exact_mod_cast h), ix h, br_t, ix (hl ▸ h), br_t, wrap_succ (by omega), Int.toNat_natCast, getD_lt h, getD_lt (hl ▸ h), he _ _ (List.getElem_mem _), bindD_some, drop_cons h, drop_cons (hl ▸ h : i < b.length)]
      by_cases e : a[i] = b[i]'(hl ▸ h)
      · simp only [e, decide_true, Bool.not_true, br_f, List.cons.injEq, true_and]
        exact eqLaneS_L D n K0 K1 m (i + 1) a b he hl hm (by omega) (by omega)
      · simp only [e, decide_false, Bool.not_false, br_t, List.cons.injEq, false_and, if_false]
    · rw [br_neg (by exact_mod_cast h), drop_end h, drop_end (hl ▸ h)]; rfl
theorem c_eqLaneS {X : Ext} (hX : XOk X) {n : Nat} (hn : W + 3 ≤ n) (a b : List Lane) (hb : b.length ≤ maxLen) (he : ∀ y ∈ b, y.2.1.length ≤ maxLen) : C_laws_eqLaneS (DD X n) a b = some ((decide (a = b), ()), ()) := by
  obtain ⟨n, rfl⟩ : ∃ k, n = k + 1 := ⟨n - 1, by omega⟩
  rw [S_laws_eqLaneS hX]
  simp only [F_laws_eqLaneS, laws_eqLaneS_e, laws_eqLaneS_LP0]
  by_cases h : a.length = b.length
  · have e : ((a.length : Int) != (b.length : Int)) = false := by simp [h]
    rw [e, br_f]
    have := eqLaneS_L (DD X n) n (fun v => laws_eqLaneS_x0_0 (DD X n) n v) (laws_eqLaneS_x0_1 (DD X n) n) n 0 a b (fun x y hy => c_eqLane hX (by omega) x y (he y hy)) h (by omega) (by omega) (by have := W_def; have := maxLen_def; omega)
    rw [show ((0 : Nat) : Int) = 0 from rfl] at this
    rw [this]
    simp only [List.drop_zero, laws_eqLaneS_x0_0, laws_eqLaneS_x0_1]
    by_cases h : a = b <;> simp [h]
  · have e : ((a.length : Int) != (b.length : Int)) = true := by simp; omega
    have : a ≠ b := fun h2 => h (by rw [h2])
    rw [e, br_t]; simp [this]
theorem c_toLane {X : Ext} (hX : XOk X) {n : Nat} (hn : W + 2 ≤ n) (a : Lane) (ha : a.2.1.length ≤ bound) : C_laws_toLane (DD X n) a = some ((a, ()), ()) := by
  obtain ⟨n, rfl⟩ : ∃ k, n = k + 1 := ⟨n - 1, by omega⟩
  rw [S_laws_toLane hX]
  simp only [F_laws_toLane, laws_toLane_e]
  rw [c_toIntS hX (by omega) _ ha, bindD_some]
theorem toLaneS_L (D : Den ctx) (n : Nat) (K : List Lane → Option ((List Lane × Unit) × Unit)) : ∀ (m i : Nat) (a c : List Lane), (∀ x ∈ a, C_laws_toLane D x = some ((x, ()), ())) → a.length = c.length → a.length ≤ maxLen → i ≤ a.length → a.length - i < m →
    laws_toLaneS_L0 D n K m a i c = K (c.take i ++ a.drop i)
  | 0, _, _, _, _, _, _, _, h => by omega
  | m + 1, i, a, c, he, hl, hm, hi, hk => by
    simp only [laws_toLaneS_L0, laws_toLaneS_b0]
    have hd := maxLen_def
    by_cases h : i < a.length
    · rw [br_pos (by exact_mod_cast h), ix h, br_t, Int.toNat_natCast, getD_lt h, he _ (List.getElem_mem _), bindD_some, ix (hl ▸ h), br_t, wrap_succ (by omega)]
      have e := toLaneS_L D n K m (i + 1) a (c.set i a[i]) he (by simp [hl]) hm (by omega) (by omega)
      rw [drop_cons h]
      refine Eq.trans e ?_
      rw [take_set (hl ▸ h), List.append_assoc]; rfl
    · rw [br_neg (by exact_mod_cast h), drop_end h, List.take_of_length_le (by omega), List.append_nil]
theorem c_toLaneS {X : Ext} (hX : XOk X) {n : Nat} (hn : W + 3 ≤ n) (a : List Lane) (ha : a.length ≤ bound) (he : ∀ x ∈ a, x.2.1.length ≤ bound) : C_laws_toLaneS (DD X n) a = some ((a, ()), ()) := by
  obtain ⟨n, rfl⟩ : ∃ k, n = k + 1 := ⟨n - 1, by omega⟩
  rw [S_laws_toLaneS hX]
  simp only [F_laws_toLaneS, laws_toLaneS_e, laws_toLaneS_LP0]
  rw [to_cond ha, br_t]
  have h1 := bound_def
  have := toLaneS_L (DD X n) n (fun v => laws_toLaneS_x0_0 (DD X n) n v) n 0 a (List.replicate (Int.toNat (a.length : Int)) (ByteArray.empty, [], ())) (fun x hx => c_toLane hX (by omega) x (he x hx)) (by simp) (by rw [maxLen_def]; omega) (by omega) (by have := W_def; omega)
  rw [show ((0 : Nat) : Int) = 0 from rfl] at this
  rw [this]
  simp only [List.take_zero, List.drop_zero, List.nil_append, laws_toLaneS_x0_0]
theorem c_szLane {X : Ext} (hX : XOk X) {n : Nat} (hn : W + 2 ≤ n) (a : Lane) (k : Int) (ha : Wf LaneT a) (hk : 0 ≤ k ∧ k ≤ maxLen) : C_laws_szLane (DD X n) a k = some ((left LaneT a k, ()), ()) := by
  obtain ⟨n, rfl⟩ : ∃ k, n = k + 1 := ⟨n - 1, by omega⟩
  have hd := maxLen_def
  obtain ⟨w1, ⟨w2, w3⟩, -⟩ := ha
  have w1' : a.1.size ≤ maxLen := w1
  have w2' : a.2.1.length ≤ maxLen := w2
  have ht : tot LaneT a = a.1.size + (tot IntsT a.2.1 + 0) := rfl
  rw [tot_ints] at ht
  rw [S_laws_szLane hX]
  simp only [F_laws_szLane, laws_szLane_e]
  rw [wrap_id (by omega) (by omega)]
  by_cases h : k - (a.1.size : Int) < 0
  · rw [br_pos h, left_neg (by omega)]
  · rw [br_neg h, c_szIntS hX (by omega) _ _ w2' (by omega), bindD_some]
    have e2 := tot_ints a.2.1
    by_cases h2 : (tot IntsT a.2.1 : Int) ≤ k - a.1.size
    · rw [left_pos h2]; dsimp only
      rw [br_neg (by omega), left_pos (by omega)]
      congr 3; omega
    · rw [left_neg h2]; dsimp only
      rw [br_pos (by omega), left_neg (by omega)]
theorem szLaneS_L (D : Den ctx) (n : Nat) (K0 : Int → Int → Option ((Int × Unit) × Unit)) (K1 : Int → Option ((Int × Unit) × Unit)) (hK : ∀ k, K1 k = some ((k, ()), ())) (hK0 : ∀ k, K0 k (-1) = some ((-1, ()), ())) : ∀ (m i : Nat) (k : Int) (a : List Lane),
    (∀ x ∈ a, ∀ k : Int, 0 ≤ k → k ≤ maxLen → C_laws_szLane D x k = some ((left LaneT x k, ()), ())) → a.length ≤ maxLen → i ≤ a.length → a.length - i < m → 0 ≤ k → k ≤ maxLen →
    laws_szLaneS_L0 D n K0 K1 m a k i = some ((if (((a.drop i).map (tot LaneT)).sum : Int) ≤ k then k - ((a.drop i).map (tot LaneT)).sum else -1, ()), ())
  | 0, _, _, _, _, _, _, h, _, _ => by omega
  | m + 1, i, k, a, he, hm, hi, hf, h0, h1 => by
    simp only [laws_szLaneS_L0, laws_szLaneS_b0]
    have hd := maxLen_def
    by_cases h : i < a.length
    · rw [br_pos (by exact_mod_cast h), ix h, br_t, Int.toNat_natCast, getD_lt h, he _ (List.getElem_mem _) k h0 h1, bindD_some, wrap_succ (by omega), map_drop_sum h]
      by_cases h2 : left LaneT a[i] k < 0
      · rw [br_pos h2, hK0, if_neg]
        intro h3
        rw [left_pos (by omega)] at h2
        omega
      · obtain ⟨e1, e2⟩ := left_nonneg h2 h0
        rw [br_neg h2, e1]; dsimp only
        rw [szLaneS_L D n K0 K1 hK hK0 m (i + 1) _ a he hm (by omega) (by omega) (by omega) (by omega)]
        congr 3
        push_cast
        split <;> split <;> omega
    · rw [br_neg (by exact_mod_cast h), drop_end h, hK]
      simp [h0]
theorem c_szLaneS {X : Ext} (hX : XOk X) {n : Nat} (hn : W + 3 ≤ n) (a : List Lane) (k : Int) (ha : Wf (.sl LaneT) a) (hk : 0 ≤ k ∧ k ≤ maxLen) : C_laws_szLaneS (DD X n) a k = some ((left (.sl LaneT) a k, ()), ()) := by
  obtain ⟨n, rfl⟩ : ∃ k, n = k + 1 := ⟨n - 1, by omega⟩
  have hd := maxLen_def
  have w1 : a.length ≤ maxLen := ha.1
  have hts := tot_sl (t := LaneT) a
  rw [S_laws_szLaneS hX]
  simp only [F_laws_szLaneS, laws_szLaneS_e, laws_szLaneS_LP0]
  rw [wrap_id (by omega) (by omega)]
  by_cases h : k - (a.length : Int) < 0
  · rw [br_pos h, left_neg (by omega)]
  · rw [br_neg h]
    have := szLaneS_L (DD X n) n (fun v w => laws_szLaneS_x0_0 (DD X n) n v w) (fun v => laws_szLaneS_x0_1 (DD X n) n v) (fun _ => rfl) (fun _ => rfl) n 0 (k - a.length) a
      (fun x hx k h0 h1 => c_szLane hX (by omega) x k (ha.2 x hx) ⟨h0, h1⟩) w1 (by omega) (by have := W_def; omega) (by omega) (by omega)
    rw [show ((0 : Nat) : Int) = 0 from rfl] at this
    rw [this, List.drop_zero]
    by_cases h2 : (tot (.sl LaneT) a : Int) ≤ k
    · rw [left_pos h2, if_pos (by omega)]; congr 3; omega
    · rw [left_neg h2, if_neg (by omega)]
theorem markLaneS_L {X : Ext} (hX : XOk X) (N n : Nat) (hN : W + 1 ≤ N) (K : Int → List Lane → Option ((Int × Unit) × List Lane × Unit)) : ∀ (m i : Nat) (k : Int) (a : List Lane), a.length ≤ maxLen → i ≤ a.length → a.length - i < m → 0 ≤ k → k + ((a.drop i).map (cnt LaneT)).sum ≤ maxLen →
    laws_markLaneS_L0 (DD X N) n K m k i a = K (mkL (mkT LaneT) k (a.drop i)).1 (a.take i ++ (mkL (mkT LaneT) k (a.drop i)).2)
  | 0, _, _, _, _, _, h, _, _ => by omega
  | m + 1, i, k, a, hm, hi, hf, hk, hkl => by
    simp only [laws_markLaneS_L0, laws_markLaneS_b0]
    have hd := maxLen_def
    by_cases h : i < a.length
    · rw [map_drop_sum h] at hkl
      have hc : cnt LaneT a[i] = 1 + cnt IntsT a[i].2.1 := by simp only [cnt]; omega
      have hc1 := mkT_cnt IntsT (k + 1) a[i].2.1
      rw [br_pos (by exact_mod_cast h), c_markText hX hN k (by omega), bindD_some, ix h, br_t]
      simp only [List.length_set, Int.toNat_natCast, getD_set_same h, getD_lt h, List.set_set]
      rw [ix h, br_t, wrap_id (by omega) (by omega), m_markIntS hX hN _ _ (by omega) (by omega), bindD_some, wrap_succ (by omega)]
      refine Eq.trans (br_lends rfl) ?_
      have e := markLaneS_L hX N n hN K m (i + 1) (mkT IntsT (k + 1) a[i].2.1).1 (a.set i (mtext k, (mkT IntsT (k + 1) a[i].2.1).2, a[i].2.2)) (by simpa using hm) (by simp; omega) (by simp; omega) (by omega) (by rw [List.drop_set_of_lt (by omega)]; omega)
      refine Eq.trans e ?_
      rw [take_set h, drop_cons h, List.drop_set_of_lt (by omega), List.append_assoc]
      rfl
    · rw [br_neg (by exact_mod_cast h), drop_end h, List.take_of_length_le (by omega)]
      simp only [mkL, List.append_nil]
theorem m_markLaneS {X : Ext} (hX : XOk X) {n : Nat} (hn : W + 2 ≤ n) (a : List Lane) (k : Int) (ha : a.length ≤ maxLen) (hk : 0 ≤ k) (h : k + cnt (.sl LaneT) a ≤ maxLen) :
    C_laws_markLaneS (DD X n) a k = some (((mkT (.sl LaneT) k a).1, ()), ((mkT (.sl LaneT) k a).2, ())) := by
  obtain ⟨n, rfl⟩ : ∃ k, n = k + 1 := ⟨n - 1, by omega⟩
  have hd := maxLen_def
  rw [S_laws_markLaneS hX]
  simp only [F_laws_markLaneS, laws_markLaneS_e, laws_markLaneS_LP0]
  have := markLaneS_L hX n n (by omega) (fun v w => laws_markLaneS_x0_0 (DD X n) n v w) n 0 k a ha (by omega) (by have := W_def; omega) hk (by rw [List.drop_zero]; exact h)
  rw [show ((0 : Nat) : Int) = 0 from rfl] at this
  rw [this]
  simp only [List.take_zero, List.drop_zero, List.nil_append, laws_markLaneS_x0_0, mkT]
theorem heldLaneS_L {X : Ext} (hX : XOk X) (N n : Nat) (hN : W + 1 ≤ N) (K0 : Int → Int → Option ((Int × Unit) × Unit)) (K1 : Int → Option ((Int × Unit) × Unit)) : ∀ (m i : Nat) (k : Int) (a l : List Lane), a.length ≤ maxLen → i ≤ a.length → a.length - i < m → 0 ≤ k → k + (l.map (cnt LaneT)).sum ≤ maxLen →
    a.drop i = (mkL (mkT LaneT) k l).2 → laws_heldLaneS_L0 (DD X N) n K0 K1 m a k i = K1 (mkL (mkT LaneT) k l).1
  | 0, _, _, _, _, _, _, h, _, _, _ => by omega
  | m + 1, i, k, a, l, hm, hi, hf, hk, hkl, hl => by
    simp only [laws_heldLaneS_L0, laws_heldLaneS_b0]
    have hd := maxLen_def
    by_cases h : i < a.length
    · rw [drop_cons h] at hl
      cases l with
      | nil => simp [mkL] at hl; omega
      | cons x l =>
        simp only [mkL, List.cons.injEq] at hl
        obtain ⟨hx, hl⟩ := hl
        simp only [List.map_cons, List.sum_cons] at hkl
        have hc : cnt LaneT x = 1 + cnt IntsT x.2.1 := by simp only [cnt]; omega
        have hc1 := mkT_cnt IntsT (k + 1) x.2.1
        have hx1 : a[i].1 = mtext k := by rw [hx]; rfl
        have hx2 : a[i].2.1 = (mkT IntsT (k + 1) x.2.1).2 := by rw [hx]; rfl
        rw [br_pos (by exact_mod_cast h), ix h, br_t, c_markText hX hN k (by omega), bindD_some, Int.toNat_natCast, getD_lt h, hx1, hx2, beq_bytes]
        simp only [decide_true, Bool.not_true, br_f, br_t]
        rw [wrap_id (by omega) (by omega), m_heldIntS hX hN _ _ (by omega) (by omega), bindD_some, wrap_succ (by omega)]; dsimp only
        rw [br_neg (by omega)]
        have e := heldLaneS_L hX N n hN K0 K1 m (i + 1) (mkT LaneT k x).1 a l hm (by omega) (by omega) (by rw [mkT_cnt]; omega) (by rw [mkT_cnt]; omega) hl
        exact e
    · rw [br_neg (by exact_mod_cast h)]
      rw [drop_end h] at hl
      cases l with
      | nil => rfl
      | cons x l => simp [mkL] at hl
theorem m_heldLaneS {X : Ext} (hX : XOk X) {n : Nat} (hn : W + 2 ≤ n) (a : List Lane) (k : Int) (ha : a.length ≤ maxLen) (hk : 0 ≤ k) (h : k + cnt (.sl LaneT) a ≤ maxLen) :
    C_laws_heldLaneS (DD X n) (mkT (.sl LaneT) k a).2 k = some (((mkT (.sl LaneT) k a).1, ()), ()) := by
  obtain ⟨n, rfl⟩ : ∃ k, n = k + 1 := ⟨n - 1, by omega⟩
  have hd := maxLen_def
  rw [S_laws_heldLaneS hX]
  simp only [F_laws_heldLaneS, laws_heldLaneS_e, laws_heldLaneS_LP0]
  have hml : (mkT (.sl LaneT) k a).2.length = a.length := mkL_len k a
  have := heldLaneS_L hX n n (by omega) (fun v w => laws_heldLaneS_x0_0 (DD X n) n v w) (fun v => laws_heldLaneS_x0_1 (DD X n) n v) n 0 k (mkT (.sl LaneT) k a).2 a (by omega) (by omega) (by have := W_def; omega) hk h (by simp [mkT])
  rw [show ((0 : Nat) : Int) = 0 from rfl] at this
  rw [this]
  simp only [laws_heldLaneS_x0_1, mkT]
end Go.G

namespace Go.G
open Go Go.V
abbrev SkipT : Ty := .pair IntsT (.pair (.sl LaneT) .unit)
abbrev Skip := List Int × List Lane × Unit
theorem skip_eta (a : Skip) : (a.1, a.2.1, ()) = a := rfl
theorem tot_skip (a : Skip) : tot SkipT a = a.1.length + tot (.sl LaneT) a.2.1 := by
  have h : tot SkipT a = tot IntsT a.1 + (tot (.sl LaneT) a.2.1 + 0) := rfl
  rw [h, tot_ints]; rfl
theorem tot_lane (a : Lane) : tot LaneT a = a.1.size + a.2.1.length := by
  have h : tot LaneT a = a.1.size + (tot IntsT a.2.1 + 0) := rfl
  rw [h, tot_ints]; rfl
def Small (b : Nat) (a : Skip) : Prop := a.1.length ≤ b ∧ a.2.1.length ≤ b ∧ ∀ x ∈ a.2.1, x.2.1.length ≤ b
theorem small_of {b : Nat} {a : Skip} (h : tot SkipT a ≤ b) : Small b a := by
  rw [tot_skip] at h
  refine ⟨by omega, by rw [tot_sl] at h; omega, fun x hx => ?_⟩
  have h1 := tot_mem (t := LaneT) hx
  rw [tot_lane] at h1
  omega
theorem Small.mono {b c : Nat} {a : Skip} (h : Small b a) (hb : b ≤ c) : Small c a := ⟨by have := h.1; omega, by have := h.2.1; omega, fun x hx => by have := h.2.2 x hx; omega⟩
theorem c_eqSkip {X : Ext} (hX : XOk X) {n : Nat} (hn : W + 4 ≤ n) (a b : Skip) (hb : Small maxLen b) : C_laws_eqSkip (DD X n) a b = some ((decide (a = b), ()), ()) := by
  obtain ⟨n, rfl⟩ : ∃ k, n = k + 1 := ⟨n - 1, by omega⟩
  rw [S_laws_eqSkip hX]
  simp only [F_laws_eqSkip, laws_eqSkip_e]
  rw [c_eqIntS hX (by omega) _ _ hb.1, bindD_some, c_eqLaneS hX (by omega) _ _ hb.2.1 hb.2.2]
  obtain ⟨a1, a2, ⟨⟩⟩ := a
  obtain ⟨b1, b2, ⟨⟩⟩ := b
  by_cases h1 : a1 = b1 <;> by_cases h2 : a2 = b2 <;> simp [h1, h2, br, bindD_some]
theorem c_toSkip {X : Ext} (hX : XOk X) {n : Nat} (hn : W + 4 ≤ n) (a : Skip) (ha : Small bound a) : C_laws_toSkip (DD X n) a = some ((a, ()), ()) := by
  obtain ⟨n, rfl⟩ : ∃ k, n = k + 1 := ⟨n - 1, by omega⟩
  rw [S_laws_toSkip hX]
  simp only [F_laws_toSkip, laws_toSkip_e]
  rw [c_toIntS hX (by omega) _ ha.1, bindD_some, c_toLaneS hX (by omega) _ ha.2.1 ha.2.2, bindD_some]
theorem c_szSkip {X : Ext} (hX : XOk X) {n : Nat} (hn : W + 4 ≤ n) (a : Skip) (k : Int) (ha : Wf SkipT a) (hk : 0 ≤ k ∧ k ≤ maxLen) : C_laws_szSkip (DD X n) a k = some ((left SkipT a k, ()), ()) := by
  obtain ⟨n, rfl⟩ : ∃ k, n = k + 1 := ⟨n - 1, by omega⟩
  have hd := maxLen_def
  obtain ⟨w1, w2, -⟩ := ha
  have w1' : a.1.length ≤ maxLen := w1.1
  have hl := tot_skip a
  have h1 := tot_ints a.1
  rw [S_laws_szSkip hX]
  simp only [F_laws_szSkip, laws_szSkip_e]
  rw [c_szIntS hX (by omega) _ _ w1' hk, bindD_some]; dsimp only
  by_cases h : left IntsT a.1 k < 0
  · rw [br_pos h, left_neg]
    intro h3
    rw [left_pos (by omega)] at h
    omega
  · obtain ⟨e1, e2⟩ := left_nonneg h hk.1
    rw [br_neg h, e1, c_szLaneS hX (by omega) _ _ w2 (by omega), bindD_some]; dsimp only
    by_cases h : left (.sl LaneT) a.2.1 (k - tot IntsT a.1) < 0
    · rw [br_pos h, left_neg]
      intro h3
      rw [left_pos (by omega)] at h
      omega
    · obtain ⟨e3, e4⟩ := left_nonneg h (by omega)
      rw [br_neg h, e3, left_pos (by omega)]
      congr 3; omega
def markSkipP (k : Int) (a : Skip) : Int × Skip := ((mkT (.sl LaneT) (mkT IntsT k a.1).1 a.2.1).1, ((mkT IntsT k a.1).2, (mkT (.sl LaneT) (mkT IntsT k a.1).1 a.2.1).2, ()))
theorem m_markSkip {X : Ext} (hX : XOk X) {n : Nat} (hn : W + 3 ≤ n) (a : Skip) (k : Int) (ha : a.2.1.length ≤ maxLen) (hk : 0 ≤ k) (h : k + cnt IntsT a.1 + cnt (.sl LaneT) a.2.1 ≤ maxLen) :
    C_laws_markSkip (DD X n) a k = some (((markSkipP k a).1, ()), ((markSkipP k a).2, ())) := by
  obtain ⟨n, rfl⟩ : ∃ k, n = k + 1 := ⟨n - 1, by omega⟩
  have h1 := mkT_cnt IntsT k a.1
  rw [S_laws_markSkip hX]
  simp only [F_laws_markSkip, laws_markSkip_e]
  rw [m_markIntS hX (by omega) _ _ hk (by omega), bindD_some]; dsimp only
  rw [m_markLaneS hX (by omega) _ _ ha (by omega) (by omega), bindD_some]
  rfl
theorem m_heldSkip {X : Ext} (hX : XOk X) {n : Nat} (hn : W + 3 ≤ n) (a : Skip) (k : Int) (ha : a.2.1.length ≤ maxLen) (hk : 0 ≤ k) (h : k + cnt IntsT a.1 + cnt (.sl LaneT) a.2.1 ≤ maxLen) :
    C_laws_heldSkip (DD X n) (markSkipP k a).2 k = some (((markSkipP k a).1, ()), ()) := by
  obtain ⟨n, rfl⟩ : ∃ k, n = k + 1 := ⟨n - 1, by omega⟩
  have h1 := mkT_cnt IntsT k a.1
  have h2 := mkT_cnt (.sl LaneT) (mkT IntsT k a.1).1 a.2.1
  rw [S_laws_heldSkip hX]
  simp only [F_laws_heldSkip, laws_heldSkip_e, markSkipP]
  rw [m_heldIntS hX (by omega) _ _ hk (by omega), bindD_some]; dsimp only
  rw [br_neg (by omega), m_heldLaneS hX (by omega) _ _ ha (by omega) (by omega), bindD_some]; dsimp only
  rw [br_neg (by omega)]
theorem markSkip_pos (a : Skip) (k : Int) (hk : 0 < k) : ¬ (markSkipP k a).1 < 0 := by
  have h1 := mkT_cnt IntsT k a.1
  have h2 := mkT_cnt (.sl LaneT) (mkT IntsT k a.1).1 a.2.1
  simp only [markSkipP]
  omega
theorem cnt_small {b : Nat} {a : Skip} (h : Small b a) : cnt IntsT a.1 + cnt (.sl LaneT) a.2.1 ≤ b + b * (b + 1) := by
  have h1 : ∀ l : List Lane, (∀ x ∈ l, x.2.1.length ≤ b) → cnt (.sl LaneT) l ≤ l.length * (b + 1) := by
    intro l
    induction l with
    | nil => intro _; simp [cnt]
    | cons x l ih =>
      intro hx
      have e : cnt LaneT x = 1 + (cnt IntsT x.2.1 + 0) := rfl
      have h2 := ih (fun y hy => hx y (List.mem_cons_of_mem _ hy))
      have h3 := hx x (List.mem_cons_self ..)
      rw [cnt_ints] at e
      rw [cnt_sl] at h2 ⊢
      rw [List.map_cons, List.sum_cons, e, List.length_cons, Nat.add_mul]
      omega
  have h2 := h1 _ h.2.2
  have h3 := Nat.mul_le_mul_right (b + 1) h.2.1
  rw [cnt_ints]
  have := h.1
  omega
end Go.G

namespace Go.G
open Go Go.V
theorem less_eq : ∀ (x y : List UInt8), Op.bytesLess x y = decide (x < y)
  | [], [] => by simp [Op.bytesLess]
  | _ :: _, [] => by simp [Op.bytesLess]
  | [], _ :: _ => by simp [Op.bytesLess]
  | a :: x, b :: y => by
    rw [Op.bytesLess, less_eq x y]
    simp only [List.cons_lt_cons_iff]
    by_cases h1 : a < b <;> by_cases h2 : a = b <;> by_cases h3 : x < y <;> simp [h1, h2, h3]
def klt (a b : ByteArray) : Prop := Op.bytesLess a.toList b.toList = true
theorem klt_irrefl (a : ByteArray) : ¬ klt a a := by
  unfold klt; rw [less_eq]; simp [List.lt_irrefl]
theorem klt_trans {a b c : ByteArray} (h : klt a b) (k : klt b c) : klt a c := by
  unfold klt at *; rw [less_eq] at *
  simp only [decide_eq_true_eq] at *
  exact List.lt_trans h k
theorem bytes_inj {a b : ByteArray} (h : a.toList = b.toList) : a = b := by
  have h2 : a.data.toList = b.data.toList := by simpa [ByteArray.toList_eq] using h
  cases a; cases b
  simp only [ByteArray.mk.injEq]
  exact Array.toList_inj.1 h2
theorem klt_total (a b : ByteArray) : klt a b ∨ a = b ∨ klt b a := by
  unfold klt; rw [less_eq, less_eq]
  simp only [decide_eq_true_eq]
  by_cases h1 : a.toList < b.toList
  · exact .inl h1
  · by_cases h2 : b.toList < a.toList
    · exact .inr (.inr h2)
    · exact .inr (.inl (bytes_inj (List.le_antisymm (List.not_lt.1 h2) (List.not_lt.1 h1))))
theorem klt_asymm {a b : ByteArray} (h : klt a b) : ¬ klt b a := fun k => klt_irrefl a (klt_trans h k)
theorem bl_true {a b : ByteArray} (h : klt a b) : Op.bytesLess a.toList b.toList = true := h
theorem bl_false {a b : ByteArray} (h : ¬ klt a b) : Op.bytesLess a.toList b.toList = false := by
  simpa [klt] using h
def hstep (x : Int) (b : UInt8) : Int := Int.tmod (IntKind.wrap IntKind.i64 (IntKind.wrap IntKind.i64 (31 * x) + IntKind.wrap IntKind.i64 (b.toNat : Int))) 16
def hval (s : ByteArray) : Int := s.data.toList.foldl hstep 7
def height (s : ByteArray) : Nat := if hval s % 8 = 0 then 4 else if hval s % 4 = 0 then 3 else if hval s % 2 = 0 then 2 else 1
theorem hstep_range {x : Int} {b : UInt8} (h : 0 ≤ x ∧ x < 16) : 0 ≤ hstep x b ∧ hstep x b < 16 := by
  unfold hstep
  have hb : b.toNat < 256 := b.toNat_lt
  rw [wrap_id (x := 31 * x) (by omega) (by omega), wrap_id (x := (b.toNat : Int)) (by omega) (by omega), wrap_id (by omega) (by omega), Int.tmod_eq_emod_of_nonneg (by omega)]
  omega
theorem hfold_range : ∀ (l : List UInt8) (x : Int), 0 ≤ x ∧ x < 16 → 0 ≤ l.foldl hstep x ∧ l.foldl hstep x < 16
  | [], _, h => h
  | b :: l, x, h => hfold_range l _ (hstep_range h)
theorem hval_range (s : ByteArray) : 0 ≤ hval s ∧ hval s < 16 := hfold_range _ _ (by omega)
theorem height_range (s : ByteArray) : 1 ≤ height s ∧ height s ≤ 4 := by
  unfold height
  split
  · omega
  · split
    · omega
    · split <;> omega
theorem byte_at {s : ByteArray} {i : Nat} (h : i < s.size) : (Array.getD s.data i (UInt8.ofNat 0)) = s.data.toList[i]'(show i < s.data.toList.length from h) := by
  have h' : i < s.data.size := h
  unfold Array.getD
  rw [dif_pos h']
  rfl
theorem sizes {s : ByteArray} : s.data.toList.length = s.size := rfl
theorem implHeight_L (D : Den ctx) (n : Nat) (K : Int → Option ((Int × Unit) × Unit)) : ∀ (m i : Nat) (s : ByteArray) (x : Int), s.size ≤ maxLen → i ≤ s.size → s.size - i < m →
    impl_HeightOf_L0 D n K m s x s.size i = K ((s.data.toList.drop i).foldl hstep x)
  | 0, _, _, _, _, _, h => by omega
  | m + 1, i, s, x, hm, hi, hf => by
    simp only [impl_HeightOf_L0, impl_HeightOf_b0]
    have hd := maxLen_def
    by_cases h : i < s.size
    · have hl : i < s.data.toList.length := h
      have hc : (decide (0 ≤ (i : Int)) && decide ((i : Int) < (s.size : Int))) = true := by simp only [Bool.and_eq_true, decide_eq_true_eq]; omega
      rw [br_pos (by exact_mod_cast h), hc, br_t, wrap_succ (i := i) (by omega), Int.toNat_natCast, byte_at h, drop_cons hl, List.foldl_cons]
      exact implHeight_L D n K m (i + 1) s _ hm (by omega) (by omega)
    · rw [br_neg (by exact_mod_cast h), List.drop_eq_nil_of_le (by rw [sizes]; omega)]; rfl
theorem c_implHeight {X : Ext} (hX : XOk X) {n : Nat} (hn : W + 1 ≤ n) (s : ByteArray) (hs : s.size ≤ maxLen) : C_impl_HeightOf (DD X n) s = some (((height s : Int), ()), ()) := by
  obtain ⟨n, rfl⟩ : ∃ k, n = k + 1 := ⟨n - 1, by omega⟩
  have hd := maxLen_def
  rw [S_impl_HeightOf hX]
  simp only [F_impl_HeightOf, impl_HeightOf_e, impl_HeightOf_LP0]
  have := implHeight_L (DD X n) n (fun v => impl_HeightOf_x0_0 (DD X n) n v) n 0 s 7 hs (by omega) (by have := W_def; omega)
  rw [show ((0 : Nat) : Int) = 0 from rfl, List.drop_zero] at this
  rw [this]
  have hr := hval_range s
  simp only [impl_HeightOf_x0_0]
  show br (decide (Int.tmod (hval s) 8 = 0)) _ _ = _
  rw [Int.tmod_eq_emod_of_nonneg hr.1, show List.foldl hstep 7 s.data.toList = hval s from rfl, Int.tmod_eq_emod_of_nonneg hr.1, Int.tmod_eq_emod_of_nonneg hr.1]
  unfold height
  simp only [br_ite, decide_eq_true_eq]
  split
  · rfl
  · split
    · rfl
    · split <;> rfl
theorem specHeight_L (D : Den ctx) (n : Nat) (K : Int → Option ((Int × Unit) × Unit)) : ∀ (m i : Nat) (s : ByteArray) (x : Int), s.size ≤ maxLen → i ≤ s.size → s.size - i < m →
    spec_HeightOf_L0 D n K m s x i = K ((s.data.toList.drop i).foldl hstep x)
  | 0, _, _, _, _, _, h => by omega
  | m + 1, i, s, x, hm, hi, hf => by
    simp only [spec_HeightOf_L0, spec_HeightOf_b0]
    have hd := maxLen_def
    by_cases h : i < s.size
    · have hl : i < s.data.toList.length := h
      have hc : (decide (0 ≤ (i : Int)) && decide ((i : Int) < (s.size : Int))) = true := by simp only [Bool.and_eq_true, decide_eq_true_eq]; omega
      rw [br_pos (by exact_mod_cast h), hc, br_t, wrap_succ (i := i) (by omega), Int.toNat_natCast, byte_at h, drop_cons hl, List.foldl_cons]
      exact specHeight_L D n K m (i + 1) s _ hm (by omega) (by omega)
    · rw [br_neg (by exact_mod_cast h), List.drop_eq_nil_of_le (by rw [sizes]; omega)]; rfl
theorem c_specHeight {X : Ext} (hX : XOk X) {n : Nat} (hn : W + 1 ≤ n) (s : ByteArray) (hs : s.size ≤ maxLen) : C_spec_HeightOf (DD X n) s = some (((height s : Int), ()), ()) := by
  obtain ⟨n, rfl⟩ : ∃ k, n = k + 1 := ⟨n - 1, by omega⟩
  have hd := maxLen_def
  rw [S_spec_HeightOf hX]
  simp only [F_spec_HeightOf, spec_HeightOf_e, spec_HeightOf_LP0]
  have := specHeight_L (DD X n) n (fun v => spec_HeightOf_x0_0 (DD X n) n v) n 0 s 7 hs (by omega) (by have := W_def; omega)
  rw [show ((0 : Nat) : Int) = 0 from rfl, List.drop_zero] at this
  rw [this]
  have hr := hval_range s
  simp only [spec_HeightOf_x0_0]
  rw [show List.foldl hstep 7 s.data.toList = hval s from rfl, Int.tmod_eq_emod_of_nonneg hr.1, Int.tmod_eq_emod_of_nonneg hr.1]
  unfold height
  simp only [br_ite, decide_eq_true_eq]
  by_cases h1 : hval s = 0 ∨ hval s = 8
  · rw [if_pos, if_pos]
    · rfl
    · omega
    · rcases h1 with h1 | h1 <;> simp [h1]
  · rw [if_neg, if_neg (c := hval s % 8 = 0)]
    · split
      · rfl
      · split <;> rfl
    · omega
    · simp only [not_or] at h1
      simp [h1.1, h1.2]
end Go.G

namespace Go.G
open Go Go.V
open Classical
theorem nodup_len : ∀ (N : Nat) (l : List Int), l.Nodup → (∀ x ∈ l, 0 ≤ x ∧ x < N) → l.length ≤ N
  | 0, l, _, h => by
    cases l with
    | nil => simp
    | cons x l => have := h x (List.mem_cons_self ..); omega
  | N + 1, l, hn, h => by
    have h1 := nodup_len N (l.erase (N : Int)) (hn.erase _) (fun x hx => by
      have hm := List.mem_of_mem_erase hx
      have hne : x ≠ (N : Int) := fun e => by subst e; exact (hn.not_mem_erase hx).elim
      have := h x hm; omega)
    by_cases hm : (N : Int) ∈ l
    · rw [List.length_erase_of_mem hm] at h1; omega
    · rw [List.erase_of_not_mem hm] at h1; omega
abbrev dl : Lane := (ByteArray.empty, [], ())
def nodeAt (s : Skip) (p : Int) : Lane := s.2.1.getD p.toNat dl
def lst (out : List Int) : Int := out.getD (out.length - 1) 0
def bad (s : Skip) (lane : Nat) (p : Int) (out : List Int) : Prop :=
  ¬ (0 ≤ p ∧ p < s.2.1.length) ∨ (nodeAt s p).2.1.length ≤ lane ∨ (0 < out.length ∧ ¬ klt (nodeAt s (lst out)).1 (nodeAt s p).1)
theorem not_bad {s : Skip} {lane : Nat} {p : Int} {out : List Int} : ¬ bad s lane p out ↔ (0 ≤ p ∧ p < s.2.1.length) ∧ lane < (nodeAt s p).2.1.length ∧ (0 < out.length → klt (nodeAt s (lst out)).1 (nodeAt s p).1) := by
  unfold bad
  constructor
  · intro h
    refine ⟨Classical.byContradiction fun h1 => h (.inl h1), ?_, fun h1 => Classical.byContradiction fun h2 => h (.inr (.inr ⟨h1, h2⟩))⟩
    exact Nat.lt_of_not_le fun h1 => h (.inr (.inl h1))
  · rintro ⟨h1, h2, h3⟩ (h | h | ⟨h, k⟩)
    · exact h h1
    · omega
    · exact k (h3 h)
noncomputable def chain (s : Skip) (lane : Nat) : Nat → Int → List Int → Option (List Int)
  | 0, _, _ => none
  | f + 1, p, out => if p = -1 then some out else if bad s lane p out then none else chain s lane f ((nodeAt s p).2.1.getD lane 0) (out ++ [p])
structure Inc (s : Skip) (out : List Int) : Prop where
  rng : ∀ x ∈ out, 0 ≤ x ∧ x < s.2.1.length
  pw : out.Pairwise fun a b => klt (nodeAt s a).1 (nodeAt s b).1
theorem Inc.nil (s : Skip) : Inc s [] := ⟨fun x h => by simp at h, List.Pairwise.nil⟩
theorem lst_app (out : List Int) (p : Int) : lst (out ++ [p]) = p := by simp [lst]
theorem lst_mem {out : List Int} (h : 0 < out.length) : lst out ∈ out := by
  unfold lst
  rw [getD_lt (by omega)]
  exact List.getElem_mem _
theorem Inc.last {s : Skip} {out : List Int} (h : Inc s out) (hp : 0 < out.length) : ∀ x ∈ out, x = lst out ∨ klt (nodeAt s x).1 (nodeAt s (lst out)).1 := by
  intro x hx
  obtain ⟨i, hi, rfl⟩ := List.mem_iff_getElem.1 hx
  by_cases e : i = out.length - 1
  · left; unfold lst; rw [getD_lt (by omega)]; simp only [e]
  · right
    unfold lst
    rw [getD_lt (by omega)]
    exact List.pairwise_iff_getElem.1 h.pw i (out.length - 1) hi (by omega) (by omega)
theorem Inc.snoc {s : Skip} {lane : Nat} {out : List Int} {p : Int} (h : Inc s out) (hb : ¬ bad s lane p out) : Inc s (out ++ [p]) := by
  obtain ⟨b1, b2, b3⟩ := not_bad.1 hb
  refine ⟨fun x hx => ?_, List.pairwise_append.2 ⟨h.pw, by simp, fun a ha b hbm => ?_⟩⟩
  · rcases List.mem_append.1 hx with hx | hx
    · exact h.rng x hx
    · simp only [List.mem_singleton] at hx; subst hx; exact b1
  · simp only [List.mem_singleton] at hbm
    subst hbm
    have hp : 0 < out.length := by cases out with | nil => simp at ha | cons => simp
    rcases h.last hp a ha with rfl | h1
    · exact b3 hp
    · exact klt_trans h1 (b3 hp)
theorem Inc.nodup {s : Skip} {out : List Int} (h : Inc s out) : out.Nodup :=
  List.Pairwise.imp (fun hab e => by subst e; exact klt_irrefl _ hab) h.pw
theorem Inc.len {s : Skip} {out : List Int} (h : Inc s out) : out.length ≤ s.2.1.length := nodup_len _ _ h.nodup h.rng
theorem chain_inc {s : Skip} {lane : Nat} : ∀ (f : Nat) {p : Int} {out l : List Int}, Inc s out → chain s lane f p out = some l → Inc s l
  | 0, _, _, _, _, h => by simp [chain] at h
  | f + 1, p, out, l, hi, h => by
    simp only [chain] at h
    split at h
    · simp only [Option.some.injEq] at h; subst h; exact hi
    · split at h
      · simp at h
      · rename_i hb; exact chain_inc f (hi.snoc hb) h
theorem chain_fuel {s : Skip} {lane : Nat} : ∀ (f g : Nat) {p : Int} {out : List Int}, Inc s out → s.2.1.length - out.length < f → s.2.1.length - out.length < g → chain s lane f p out = chain s lane g p out
  | 0, _, _, _, _, h, _ => by omega
  | _, 0, _, _, _, _, h => by omega
  | f + 1, g + 1, p, out, hi, hf, hg => by
    simp only [chain]
    split
    · rfl
    · split
      · rfl
      · rename_i hb
        have h1 := (hi.snoc hb).len
        simp only [List.length_append, List.length_singleton] at h1
        exact chain_fuel f g (hi.snoc hb) (by simp; omega) (by simp; omega)
noncomputable def lane (s : Skip) (j : Nat) : Option (List Int) := chain s j (s.2.1.length + 1) (s.1.getD j 0) []
theorem c_from {X : Ext} (hX : XOk X) {n : Nat} (hn : 1 ≤ n) (a b c : Int) : C_impl_from (DD X n) a b c = some ((decide (b ≤ a ∧ a ≤ c), ()), ()) := by
  obtain ⟨n, rfl⟩ : ∃ k, n = k + 1 := ⟨n - 1, by omega⟩
  rw [S_impl_from hX]
  simp only [F_impl_from, impl_from_e]
  by_cases h1 : a ≥ b <;> by_cases h2 : a ≤ c <;> simp [h1, h2]
theorem c_l1In {X : Ext} (hX : XOk X) {n : Nat} (hn : 1 ≤ n) (a b c : Int) : C_spec_l1In (DD X n) a b c = some ((decide (b ≤ a ∧ a ≤ c), ()), ()) := by
  obtain ⟨n, rfl⟩ : ∃ k, n = k + 1 := ⟨n - 1, by omega⟩
  rw [S_spec_l1In hX]
  simp only [F_spec_l1In, spec_l1In_e]
  by_cases h1 : a ≥ b <;> by_cases h2 : a ≤ c <;> simp [h1, h2]
theorem last_get {out : List Int} (h : 0 < out.length) : List.getD out (Int.toNat ((out.length : Int) - 1)) 0 = lst out := by
  unfold lst; congr 1; omega
theorem laneOf_L {X : Ext} (hX : XOk X) (N n : Nat) (hN : 1 ≤ N) {K0 : Bool → List Int → Option ((List Int × Bool × Unit) × Unit)} {K1 : List Int → Option ((List Int × Bool × Unit) × Unit)} {R0 : Option ((List Int × Bool × Unit) × Unit)} (hK : ∀ x, K0 false x = R0)
    (s : Skip) (hs : s.2.1.length ≤ 1048576) (j : Nat) : ∀ (m : Nat) (p : Int) (out : List Int), Inc s out → s.2.1.length - out.length < m →
    impl_laneOf_L0 (DD X N) n K0 K1 m j p s out = match chain s j m p out with | some l => K1 l | none => R0
  | 0, _, _, _, h => by omega
  | m + 1, p, out, hi, hf => by
    simp only [impl_laneOf_L0, impl_laneOf_b0, chain]
    have hb' := bound_def
    by_cases h0 : p = -1
    · subst h0; rfl
    · have e0 : (p != -1) = true := by simp [h0]
      rw [e0, br_t, c_from hX hN, bindD_some, if_neg h0, wrap_id (x := (s.2.1.length : Int) - 1) (by omega) (by omega)]
      dsimp only
      by_cases h1 : 0 ≤ p ∧ p ≤ (s.2.1.length : Int) - 1
      · have hlt : p < s.2.1.length := by omega
        rw [decide_eq_true h1, Bool.not_true, br_f, ixn h1.1 hlt, br_t]
        by_cases h2 : (nodeAt s p).2.1.length ≤ j
        · rw [if_pos (.inr (.inl h2)), br_pos (by exact_mod_cast h2), hK]
        · have h2' : j < (nodeAt s p).2.1.length := by omega
          have ej : (decide (0 ≤ (j : Int)) && decide ((j : Int) < ((List.getD s.2.1 (Int.toNat p) (ByteArray.empty, [], ())).2.1.length : Int))) = true := ix h2'
          rw [br_neg (by show ¬ ((j : Int) ≥ ((nodeAt s p).2.1.length : Int)); omega)]
          have hol := hi.len
          by_cases h3 : 0 < out.length
          · have hlm := hi.rng _ (lst_mem h3)
            rw [br_pos (by omega), wrap_id (x := (out.length : Int) - 1) (by omega) (by omega), ixn (by omega) (by omega), br_t, last_get h3, ixn hlm.1 hlm.2, br_t, br_t]
            by_cases h4 : klt (nodeAt s (lst out)).1 (nodeAt s p).1
            · have hnb : ¬ bad s j p out := not_bad.2 ⟨⟨h1.1, hlt⟩, h2', fun _ => h4⟩
              have e4 : Op.bytesLess (List.getD s.2.1 (Int.toNat (lst out)) (ByteArray.empty, [], ())).1.toList (List.getD s.2.1 (Int.toNat p) (ByteArray.empty, [], ())).1.toList = true := h4
              have hl2 := (hi.snoc hnb).len
              simp only [List.length_append, List.length_singleton] at hl2
              rw [if_neg hnb, e4, Bool.not_true, br_f, br_pos (by omega), br_t, ej, br_t, Int.toNat_natCast]
              exact laneOf_L hX N n hN hK s hs j m _ _ (hi.snoc hnb) (by simp; omega)
            · have e4 : Op.bytesLess (List.getD s.2.1 (Int.toNat (lst out)) (ByteArray.empty, [], ())).1.toList (List.getD s.2.1 (Int.toNat p) (ByteArray.empty, [], ())).1.toList = false := bl_false h4
              rw [if_pos (.inr (.inr ⟨h3, h4⟩)), e4, Bool.not_false, br_t, hK]
          · have hnb : ¬ bad s j p out := not_bad.2 ⟨⟨h1.1, hlt⟩, h2', fun h => absurd h h3⟩
            have hl2 := (hi.snoc hnb).len
            simp only [List.length_append, List.length_singleton] at hl2
            rw [if_neg hnb, br_neg (by omega), br_pos (by omega), br_t, ej, br_t, Int.toNat_natCast]
            exact laneOf_L hX N n hN hK s hs j m _ _ (hi.snoc hnb) (by simp; omega)
      · rw [decide_eq_false h1, Bool.not_false, br_t, hK, if_pos (.inl (by omega))]
theorem c_laneOf {X : Ext} (hX : XOk X) {n : Nat} (hn : W + 1 ≤ n) (s : Skip) (hs : s.2.1.length ≤ 1048576) (j : Nat) (hj : j < s.1.length) :
    C_impl_laneOf (DD X n) s j = some (((lane s j).getD [], (lane s j).isSome, ()), ()) := by
  obtain ⟨n, rfl⟩ : ∃ k, n = k + 1 := ⟨n - 1, by omega⟩
  have hd := W_def
  rw [S_impl_laneOf hX]
  simp only [F_impl_laneOf, impl_laneOf_e, impl_laneOf_LP0]
  rw [ix hj, br_t, Int.toNat_natCast, laneOf_L hX n n (by omega) (R0 := some (([], false, ()), ())) (fun x => rfl) s hs j n _ [] (Inc.nil s) (by omega)]
  rw [chain_fuel n (s.2.1.length + 1) (Inc.nil s) (by omega) (by omega)]
  unfold lane
  cases chain s j (s.2.1.length + 1) (s.1.getD j 0) [] <;> rfl
theorem l20Lane_L {X : Ext} (hX : XOk X) (N n : Nat) (hN : 1 ≤ N) {K0 : Bool → List Int → List Int → Option ((List Int × Bool × Unit) × Unit)} {K1 : List Int → Option ((List Int × Bool × Unit) × Unit)} {R0 : Option ((List Int × Bool × Unit) × Unit)} (hK : ∀ x, K0 false [] x = R0)
    (s : Skip) (hs : s.2.1.length ≤ 1048576) (j : Nat) : ∀ (m : Nat) (p : Int) (out : List Int), Inc s out → s.2.1.length - out.length < m →
    spec_l20Lane_L0 (DD X N) n K0 K1 m j p s out = match chain s j m p out with | some l => K1 l | none => R0
  | 0, _, _, _, h => by omega
  | m + 1, p, out, hi, hf => by
    simp only [spec_l20Lane_L0, spec_l20Lane_b0, chain]
    have hb' := bound_def
    have hol := hi.len
    by_cases h0 : p = -1
    · subst h0; rfl
    · have e0 : (p != -1) = true := by simp [h0]
      rw [e0, br_t, c_l1In hX hN, bindD_some, if_neg h0, wrap_id (x := (s.2.1.length : Int) - 1) (by omega) (by omega)]
      dsimp only
      by_cases h1 : 0 ≤ p ∧ p ≤ (s.2.1.length : Int) - 1
      · have hlt : p < s.2.1.length := by omega
        rw [decide_eq_true h1, Bool.not_true, cond_false]
        by_cases hfull : out.length = s.2.1.length
        · rw [br_pos (by omega), hK, if_pos]
          refine Classical.byContradiction fun hnb => ?_
          have hl2 := (hi.snoc hnb).len
          simp only [List.length_append, List.length_singleton] at hl2
          omega
        · rw [br_neg (by omega), ixn h1.1 hlt, br_t]
          by_cases h2 : (nodeAt s p).2.1.length ≤ j
          · rw [if_pos (.inr (.inl h2)), br_pos (by exact_mod_cast h2), hK]
          · have h2' : j < (nodeAt s p).2.1.length := by omega
            have ej : (decide (0 ≤ (j : Int)) && decide ((j : Int) < ((List.getD s.2.1 (Int.toNat p) (ByteArray.empty, [], ())).2.1.length : Int))) = true := ix h2'
            rw [br_neg (by show ¬ (((nodeAt s p).2.1.length : Int) ≤ (j : Int)); omega)]
            by_cases h3 : 0 < out.length
            · have hlm := hi.rng _ (lst_mem h3)
              rw [br_pos (by omega), wrap_id (x := (out.length : Int) - 1) (by omega) (by omega), ixn (by omega) (by omega), br_t, last_get h3, ixn hlm.1 hlm.2, br_t, br_t]
              by_cases h4 : klt (nodeAt s (lst out)).1 (nodeAt s p).1
              · have hnb : ¬ bad s j p out := not_bad.2 ⟨⟨h1.1, hlt⟩, h2', fun _ => h4⟩
                have e4 : Op.bytesLess (List.getD s.2.1 (Int.toNat (lst out)) (ByteArray.empty, [], ())).1.toList (List.getD s.2.1 (Int.toNat p) (ByteArray.empty, [], ())).1.toList = true := h4
                have hl2 := (hi.snoc hnb).len
                simp only [List.length_append, List.length_singleton] at hl2
                rw [if_neg hnb, e4, Bool.not_true, br_f, br_pos (by omega), br_t, ej, br_t, Int.toNat_natCast]
                exact l20Lane_L hX N n hN hK s hs j m _ _ (hi.snoc hnb) (by simp; omega)
              · have e4 : Op.bytesLess (List.getD s.2.1 (Int.toNat (lst out)) (ByteArray.empty, [], ())).1.toList (List.getD s.2.1 (Int.toNat p) (ByteArray.empty, [], ())).1.toList = false := bl_false h4
                rw [if_pos (.inr (.inr ⟨h3, h4⟩)), e4, Bool.not_false, br_t, hK]
            · have hnb : ¬ bad s j p out := not_bad.2 ⟨⟨h1.1, hlt⟩, h2', fun h => absurd h h3⟩
              have hl2 := (hi.snoc hnb).len
              simp only [List.length_append, List.length_singleton] at hl2
              rw [if_neg hnb, br_neg (by omega), br_pos (by omega), br_t, ej, br_t, Int.toNat_natCast]
              exact l20Lane_L hX N n hN hK s hs j m _ _ (hi.snoc hnb) (by simp; omega)
      · rw [decide_eq_false h1, Bool.not_false, cond_true, br_t, hK, if_pos (.inl (by omega))]
theorem c_l20Lane {X : Ext} (hX : XOk X) {n : Nat} (hn : W + 1 ≤ n) (s : Skip) (hs : s.2.1.length ≤ 1048576) (j : Nat) (hj : j < s.1.length) :
    C_spec_l20Lane (DD X n) s j = some (((lane s j).getD [], (lane s j).isSome, ()), ()) := by
  obtain ⟨n, rfl⟩ : ∃ k, n = k + 1 := ⟨n - 1, by omega⟩
  have hd := W_def
  rw [S_spec_l20Lane hX]
  simp only [F_spec_l20Lane, spec_l20Lane_e, spec_l20Lane_LP0]
  rw [ix hj, br_t, Int.toNat_natCast, l20Lane_L hX n n (by omega) (R0 := some (([], false, ()), ())) (fun x => rfl) s hs j n _ [] (Inc.nil s) (by omega)]
  rw [chain_fuel n (s.2.1.length + 1) (Inc.nil s) (by omega) (by omega)]
  unfold lane
  cases chain s j (s.2.1.length + 1) (s.1.getD j 0) [] <;> rfl
theorem lane_inc {s : Skip} {j : Nat} {l : List Int} (h : lane s j = some l) : Inc s l := chain_inc _ (Inc.nil s) h
theorem chain_high {s : Skip} {j : Nat} : ∀ (f : Nat) {p : Int} {out l : List Int}, (∀ x ∈ out, j < (nodeAt s x).2.1.length) → chain s j f p out = some l → ∀ x ∈ l, j < (nodeAt s x).2.1.length
  | 0, _, _, _, _, h => by simp [chain] at h
  | f + 1, p, out, l, hi, h => by
    simp only [chain] at h
    split at h
    · simp only [Option.some.injEq] at h; subst h; exact hi
    · split at h
      · simp at h
      · rename_i hb
        refine chain_high f (fun x hx => ?_) h
        rcases List.mem_append.1 hx with hx | hx
        · exact hi x hx
        · simp only [List.mem_singleton] at hx; subst hx; exact (not_bad.1 hb).2.1
theorem lane_high {s : Skip} {j : Nat} {l : List Int} (h : lane s j = some l) : ∀ x ∈ l, j < (nodeAt s x).2.1.length := chain_high _ (fun x hx => by simp at hx) h
end Go.G

namespace Go.G
open Go Go.V
open Classical
theorem bne_of {a b : Nat} (h : a ≠ b) : ((a : Int) != (b : Int)) = true := by rw [bne_iff_ne]; omega
theorem bne_not {a b : Nat} (h : a = b) : ((a : Int) != (b : Int)) = false := by rw [bne_eq_false_iff_eq]; omega
abbrev OB := Option ((Bool × Unit) × Unit)
noncomputable def L (s : Skip) (j : Nat) : List Int := (lane s j).getD []
theorem L_inc (s : Skip) (j : Nat) : Inc s (L s j) := by
  unfold L
  cases h : lane s j with
  | none => exact Inc.nil s
  | some l => exact lane_inc h
theorem L_high (s : Skip) (j : Nat) : ∀ x ∈ L s j, j < (nodeAt s x).2.1.length := by
  unfold L
  cases h : lane s j with
  | none => intro x hx; simp at hx
  | some l => exact lane_high h
noncomputable def cl (s : Skip) : Nat → Int → Nat
  | 0, _ => 0
  | j + 1, k => cl s j k + if k ∈ L s j then 1 else 0
theorem cl_le (s : Skip) : ∀ (j : Nat) (k : Int), cl s j k ≤ j
  | 0, _ => Nat.le_refl _
  | j + 1, k => by have := cl_le s j k; simp only [cl]; split <;> omega
def bump (t : List Int) (l : List Int) : List Int := l.foldl (fun t p => t.set p.toNat (t.getD p.toNat 0 + 1)) t
theorem bump_len : ∀ (l t : List Int), (bump t l).length = t.length
  | [], t => rfl
  | p :: l, t => by
    show (bump (t.set p.toNat (t.getD p.toNat 0 + 1)) l).length = _
    rw [bump_len l]; simp
theorem getD_set' {α : Type} {l : List α} {i j : Nat} {x d : α} (h : i < l.length) : (l.set i x).getD j d = if j = i then x else l.getD j d := by
  simp only [List.getD, List.getElem?_set]
  by_cases e : i = j
  · subst e; simp [h]
  · have : ¬ j = i := fun h => e h.symm
    simp [e, this]
theorem bump_get : ∀ (l t : List Int), l.Nodup → (∀ p ∈ l, 0 ≤ p ∧ p < t.length) → ∀ k : Nat, (bump t l).getD k 0 = t.getD k 0 + if (k : Int) ∈ l then 1 else 0
  | [], t, _, _, k => by simp [bump]
  | p :: l, t, hn, hr, k => by
    have hp := hr p (List.mem_cons_self ..)
    have hn' := List.nodup_cons.1 hn
    show (bump (t.set p.toNat (t.getD p.toNat 0 + 1)) l).getD k 0 = _
    rw [bump_get l _ hn'.2 (fun q hq => by have := hr q (List.mem_cons_of_mem _ hq); simpa using this) k, getD_set' (by omega)]
    by_cases e : k = p.toNat
    · have e2 : (k : Int) = p := by omega
      rw [if_pos e, e2, if_neg hn'.1, if_pos (List.mem_cons_self ..), e]; omega
    · have e2 : ¬ (k : Int) = p := by omega
      rw [if_neg e]
      simp [e2]
theorem times_L (D : Den ctx) (n : Nat) (K0 : Int → Skip → List Int → OB) (j : Int) (s : Skip) (l : List Int) : ∀ (m i : Nat) (t : List Int) (c : Int), l.length ≤ 1048576 → i ≤ l.length → l.length - i < m → (∀ p ∈ l, 0 ≤ p ∧ p < t.length) →
    (∀ k, 0 ≤ t.getD k 0 ∧ t.getD k 0 ≤ c) → 0 ≤ c → c + (l.length - i) ≤ 1152921504606846976 →
    impl_SkipOk_L1 D n K0 m j l.length i s t l = K0 j s (bump t (l.drop i))
  | 0, _, _, _, _, _, h, _, _, _, _ => by omega
  | m + 1, i, t, c, hl, hi, hf, hr, hc, h0, hb => by
    simp only [impl_SkipOk_L1, impl_SkipOk_b1]
    by_cases h : i < l.length
    · have hp := hr _ (List.getElem_mem h)
      have hv := hc (l[i].toNat)
      rw [br_pos (by exact_mod_cast h), ix h, br_t, Int.toNat_natCast, getD_lt h, ixn hp.1 hp.2, br_t, br_t, wrap_succ (by omega), wrap_id (x := t.getD l[i].toNat 0 + 1) (by omega) (by omega)]
      have e := times_L D n K0 j s l m (i + 1) (t.set l[i].toNat (t.getD l[i].toNat 0 + 1)) (c + 1) hl (by omega) (by omega) (by simpa using hr) (fun k => by
        rw [getD_set' (by omega)]
        have := hc k
        split <;> omega) (by omega) (by omega)
      refine Eq.trans e ?_
      rw [drop_cons h]; rfl
    · rw [br_neg (by exact_mod_cast h), drop_end h]; rfl
theorem lanes_L {X : Ext} (hX : XOk X) (n : Nat) (hn : W + 1 ≤ n) {K0 : Bool → Skip → List Int → OB} {K1 : Skip → List Int → OB} {R0 : OB} (hK : ∀ a b, K0 false a b = R0) (s : Skip) (hs : s.2.1.length ≤ 1048576) (h4 : s.1.length = 4) :
    ∀ (d j m : Nat) (t : List Int), j + d = 4 → d < m → t.length = s.2.1.length → (∀ k : Nat, k < s.2.1.length → t.getD k 0 = ((cl s j k : Nat) : Int)) →
    (∃ t4 : List Int, t4.length = s.2.1.length ∧ (∀ k : Nat, k < s.2.1.length → t4.getD k 0 = ((cl s 4 k : Nat) : Int)) ∧ (∀ i, j ≤ i → i < 4 → (lane s i).isSome) ∧
      impl_SkipOk_L0 (DD X n) n K0 K1 m j s t = K1 s t4) ∨ ((∃ i, j ≤ i ∧ i < 4 ∧ lane s i = none) ∧ impl_SkipOk_L0 (DD X n) n K0 K1 m j s t = R0)
  | d, j, 0, _, _, h, _, _ => by omega
  | 0, j, m + 1, t, hj, _, htl, ht => by
    left
    have e4 : j = 4 := by omega
    subst e4
    refine ⟨t, htl, ht, fun i h1 h2 => by omega, ?_⟩
    simp only [impl_SkipOk_L0, impl_SkipOk_b0]
    rw [br_neg (by omega)]
  | d + 1, j, m + 1, t, hj, hm, htl, ht => by
    have e0 : impl_SkipOk_L0 (DD X n) n K0 K1 (m + 1) j s t = (if (lane s j).isSome then impl_SkipOk_L0 (DD X n) n K0 K1 m (j + 1 : Nat) s (bump t (L s j)) else R0) := by
      simp only [impl_SkipOk_L0, impl_SkipOk_b0]
      have hi := L_inc s j
      have hl := hi.len
      have hd := W_def
      rw [br_pos (by omega), c_laneOf hX hn s hs j (by omega), bindD_some]
      dsimp only
      cases hls : (lane s j).isSome with
      | false => rw [Bool.not_false, br_t, hK]; simp
      | true =>
        rw [Bool.not_true, br_f, if_pos rfl]
        show impl_SkipOk_LP1 (DD X n) n _ _ _ j (L s j).length 0 s t (L s j) = _
        simp only [impl_SkipOk_LP1]
        have := times_L (DD X n) n (fun v0_0 v0_1 v0_2 => impl_SkipOk_x1_0 (DD X n) n (impl_SkipOk_L0 (DD X n) n K0 K1 m) K0 K1 v0_0 v0_1 v0_2) j s (L s j) n 0 t 4 (by omega) (by omega) (by omega) (by rw [htl]; exact hi.rng) (fun k => by
          by_cases hk : k < s.2.1.length
          · rw [ht k hk]; have := cl_le s j k; omega
          · have : t.getD k 0 = 0 := by simp [List.getD, List.getElem?_eq_none (by omega : t.length ≤ k)]
            rw [this]; omega) (by omega) (by omega)
        rw [show ((0 : Nat) : Int) = 0 from rfl] at this
        rw [this, List.drop_zero]
        simp only [impl_SkipOk_x1_0]
        rw [wrap_succ (by omega)]
    rw [e0]
    cases hls : lane s j with
    | none => right; exact ⟨⟨j, by omega, by omega, hls⟩, by simp⟩
    | some l =>
      simp only [Option.isSome_some, if_true]
      have hi := L_inc s j
      have ih := lanes_L hX n hn (K1 := K1) hK s hs h4 d (j + 1) m (bump t (L s j)) (by omega) (by omega) (by rw [bump_len, htl]) (fun k hk => by
        rw [bump_get _ _ hi.nodup (by rw [htl]; exact hi.rng) k, ht k hk]
        simp only [cl]
        push_cast
        split <;> rfl)
      rcases ih with ⟨t4, i1, i2, i3, i4⟩ | ⟨⟨i, i1, i2, i3⟩, i4⟩
      · left
        refine ⟨t4, i1, i2, fun i h1 h2 => ?_, i4⟩
        by_cases e : i = j
        · subst e; rw [hls]; rfl
        · exact i3 i (by omega) h2
      · right; exact ⟨⟨i, by omega, i2, i3⟩, i4⟩
def nodeOk (s : Skip) (k : Nat) : Prop := 0 < cl s 4 k → (nodeAt s k).2.1.length = height (nodeAt s k).1 ∧ cl s 4 k = (nodeAt s k).2.1.length
theorem nodes_L {X : Ext} (hX : XOk X) (N n : Nat) (hN : W + 1 ≤ N) {K0 : Bool → OB} {K1 : OB} (s : Skip) (hs : s.2.1.length ≤ 1048576) (hk : ∀ x ∈ s.2.1, x.1.size ≤ maxLen) (t : List Int) (htl : t.length = s.2.1.length) (ht : ∀ k : Nat, k < s.2.1.length → t.getD k 0 = ((cl s 4 k : Nat) : Int)) :
    ∀ (m i : Nat), i ≤ s.2.1.length → s.2.1.length - i < m → impl_SkipOk_L2 (DD X N) n K0 K1 m s.2.1 s.2.1.length i t = if (∀ k, i ≤ k → k < s.2.1.length → nodeOk s k) then K1 else K0 false
  | 0, _, _, h => by omega
  | m + 1, i, hi, hf => by
    simp only [impl_SkipOk_L2, impl_SkipOk_b2]
    by_cases h : i < s.2.1.length
    · have ih := nodes_L hX N n hN (K0 := K0) (K1 := K1) s hs hk t htl ht m (i + 1) (by omega) (by omega)
      have hx : s.2.1.getD i dl ∈ s.2.1 := by rw [getD_lt h]; exact List.getElem_mem h
      have en : nodeAt s (i : Int) = s.2.1.getD i dl := rfl
      rw [br_pos (by exact_mod_cast h), ix h, br_t, ix (htl ▸ h), br_t, Int.toNat_natCast, ht i h, wrap_succ (by omega), ih]
      have split_ : (∀ k, i ≤ k → k < s.2.1.length → nodeOk s k) ↔ nodeOk s i ∧ ∀ k, i + 1 ≤ k → k < s.2.1.length → nodeOk s k :=
        ⟨fun h1 => ⟨h1 i (by omega) h, fun k h2 h3 => h1 k (by omega) h3⟩, fun h1 k h2 h3 => by
          by_cases e : k = i
          · subst e; exact h1.1
          · exact h1.2 k (by omega) h3⟩
      by_cases hc : 0 < cl s 4 i
      · rw [br_pos (by omega), c_implHeight hX hN _ (hk _ hx), bindD_some]
        dsimp only
        by_cases h1 : (s.2.1.getD i dl).2.1.length = height (s.2.1.getD i dl).1
        · have e1 : (((s.2.1.getD i dl).2.1.length : Int) != (height (s.2.1.getD i dl).1 : Int)) = false := bne_not h1
          rw [e1, br_f, br_t]
          by_cases h2 : cl s 4 i = (s.2.1.getD i dl).2.1.length
          · have e2 : ((cl s 4 i : Int) != ((s.2.1.getD i dl).2.1.length : Int)) = false := bne_not h2
            rw [e2, br_f]
            have hno : nodeOk s i := fun _ => ⟨h1, h2⟩
            by_cases h3 : ∀ k, i + 1 ≤ k → k < s.2.1.length → nodeOk s k
            · rw [if_pos h3, if_pos (split_.2 ⟨hno, h3⟩)]
            · rw [if_neg h3, if_neg (fun h4 => h3 (split_.1 h4).2)]
          · have e2 : ((cl s 4 i : Int) != ((s.2.1.getD i dl).2.1.length : Int)) = true := bne_of h2
            rw [e2, br_t, if_neg (fun h4 => h2 ((split_.1 h4).1 hc).2)]
        · have e1 : (((s.2.1.getD i dl).2.1.length : Int) != (height (s.2.1.getD i dl).1 : Int)) = true := bne_of h1
          rw [e1, br_t, if_neg (fun h4 => h1 ((split_.1 h4).1 hc).1)]
      · rw [br_neg (by omega)]
        have hno : nodeOk s i := fun h => absurd h hc
        by_cases h3 : ∀ k, i + 1 ≤ k → k < s.2.1.length → nodeOk s k
        · rw [if_pos h3, if_pos (split_.2 ⟨hno, h3⟩)]
        · rw [if_neg h3, if_neg (fun h4 => h3 (split_.1 h4).2)]
    · rw [br_neg (by exact_mod_cast h), if_pos (fun k h1 h2 => by omega)]
def okP (s : Skip) : Prop := s.1.length = 4 ∧ s.2.1.length ≤ 40 ∧ (∀ j, j < 4 → (lane s j).isSome) ∧ ∀ k, k < s.2.1.length → nodeOk s k
theorem c_implSkipOk {X : Ext} (hX : XOk X) {n : Nat} (hn : W + 2 ≤ n) (s : Skip) (hs : s.2.1.length ≤ 1048576) (hk : ∀ x ∈ s.2.1, x.1.size ≤ maxLen) : C_impl_SkipOk (DD X n) s = some ((decide (okP s), ()), ()) := by
  obtain ⟨n, rfl⟩ : ∃ k, n = k + 1 := ⟨n - 1, by omega⟩
  have hd := W_def
  have hb := bound_def
  rw [S_impl_SkipOk hX]
  simp only [F_impl_SkipOk, impl_SkipOk_e, impl_SkipOk_LP0]
  by_cases h4 : s.1.length = 4
  · have e4 : ((s.1.length : Int) != 4) = false := by rw [h4]; rfl
    rw [e4, cond_false]
    by_cases h40 : s.2.1.length ≤ 40
    · rw [br_neg (by omega), to_cond (by omega), br_t]
      rcases lanes_L hX n (by omega) (K0 := fun v0_0 v0_1 v0_2 => impl_SkipOk_x0_0 (DD X n) n v0_0 v0_1 v0_2) (K1 := fun v1_0 v1_1 => impl_SkipOk_x0_1 (DD X n) n (impl_SkipOk_LP2 (DD X n) n) v1_0 v1_1) (R0 := some ((false, ()), ())) (fun _ _ => rfl) s hs h4 4 0 n
          (List.replicate (Int.toNat (s.2.1.length : Int)) 0) rfl (by omega) (by simp) (fun k hk => by simp [List.getD, cl, List.getElem?_replicate]; split <;> rfl) with ⟨t4, i1, i2, i3, i4⟩ | ⟨⟨i, i1, i2, i3⟩, i4⟩
      · rw [show ((0 : Nat) : Int) = 0 from rfl] at i4
        rw [i4]
        simp only [impl_SkipOk_x0_1, impl_SkipOk_LP2]
        have := nodes_L hX n n (by omega) (K0 := fun v0_0 => impl_SkipOk_x2_0 (DD X n) n v0_0) (K1 := impl_SkipOk_x2_1 (DD X n) n) s hs hk t4 i1 i2 n 0 (by omega) (by omega)
        rw [show ((0 : Nat) : Int) = 0 from rfl] at this
        rw [this]
        by_cases hall : ∀ k, 0 ≤ k → k < s.2.1.length → nodeOk s k
        · rw [if_pos hall, decide_eq_true (show okP s from ⟨h4, h40, fun j hj => i3 j (by omega) hj, fun k hk => hall k (by omega) hk⟩)]; rfl
        · rw [if_neg hall, decide_eq_false (fun h : okP s => hall (fun k _ hk => h.2.2.2 k hk))]; rfl
      · rw [show ((0 : Nat) : Int) = 0 from rfl] at i4
        rw [i4, decide_eq_false]
        intro h
        have := h.2.2.1 i i2
        rw [i3] at this
        simp at this
    · rw [br_pos (by omega), decide_eq_false (fun h : okP s => h40 h.2.1)]
  · have e4 : ((s.1.length : Int) != 4) = true := by simp; omega
    rw [e4, cond_true, br_t, decide_eq_false (fun h : okP s => h4 h.1)]
end Go.G

namespace Go.G
open Go Go.V
open Classical
theorem c_l1Bit {X : Ext} (hX : XOk X) {n : Nat} (hn : 1 ≤ n) (b : Bool) : C_spec_l1Bit (DD X n) b = some (((if b = true then 1 else 0 : Int), ()), ()) := by
  obtain ⟨n, rfl⟩ : ∃ k, n = k + 1 := ⟨n - 1, by omega⟩
  rw [S_spec_l1Bit hX]
  cases b <;> rfl
theorem l20In_L {X : Ext} (hX : XOk X) (N n : Nat) (hN : 1 ≤ N) (K0 : Int → Option ((Int × Unit) × Unit)) (l : List Int) (x : Int) (hl : l.length ≤ 1048576) : ∀ (m i : Nat) (c : Int), i ≤ l.length → l.length - i < m → 0 ≤ c → c ≤ i →
    spec_l20In_L0 (DD X N) n K0 m l x c i = K0 (c + ((l.drop i).count x : Nat))
  | 0, _, _, _, h, _, _ => by omega
  | m + 1, i, c, hi, hf, h0, h1 => by
    simp only [spec_l20In_L0, spec_l20In_b0]
    by_cases h : i < l.length
    · rw [br_pos (by exact_mod_cast h), ix h, br_t, Int.toNat_natCast, getD_lt h, c_l1Bit hX hN, bindD_some, wrap_succ (by omega), drop_cons h, List.count_cons]
      dsimp only
      by_cases e : l[i] = x
      · simp only [e, decide_true, if_true, beq_self_eq_true]
        rw [wrap_id (by omega) (by omega), l20In_L hX N n hN K0 l x hl m (i + 1) _ (by omega) (by omega) (by omega) (by omega)]
        congr 1; push_cast; omega
      · have : (l[i] == x) = false := by simpa using e
        simp only [e, decide_false, this, Bool.false_eq_true, if_false]
        rw [wrap_id (by omega) (by omega), l20In_L hX N n hN K0 l x hl m (i + 1) _ (by omega) (by omega) (by omega) (by omega)]
        congr 1; omega
    · rw [br_neg (by exact_mod_cast h), drop_end h]; simp
theorem c_l20In {X : Ext} (hX : XOk X) {n : Nat} (hn : W + 1 ≤ n) (l : List Int) (x : Int) (hl : l.length ≤ 1048576) : C_spec_l20In (DD X n) l x = some ((((l.count x : Nat) : Int), ()), ()) := by
  obtain ⟨n, rfl⟩ : ∃ k, n = k + 1 := ⟨n - 1, by omega⟩
  have hd := W_def
  rw [S_spec_l20In hX]
  simp only [F_spec_l20In, spec_l20In_e, spec_l20In_LP0]
  have := l20In_L hX n n (by omega) (fun v => spec_l20In_x0_0 (DD X n) n v) l x hl n 0 0 (by omega) (by omega) (by omega) (by omega)
  rw [show ((0 : Nat) : Int) = 0 from rfl] at this
  rw [this, List.drop_zero]
  simp [spec_l20In_x0_0]
theorem inFirst_L {X : Ext} (hX : XOk X) (N n : Nat) (hN : W + 1 ≤ N) (K0 : Bool → List Int → Int → List Int → Skip → OB) (K1 : List Int → Int → List Int → Skip → OB) (first l : List Int) (j : Int) (s : Skip) (hf : first.length ≤ 1048576) (hl : l.length ≤ 1048576) :
    ∀ (m i : Nat), i ≤ l.length → l.length - i < m → spec_SkipOk_L1 (DD X N) n K0 K1 m first j l i s = if ∀ x ∈ l.drop i, x ∈ first then K1 first j l s else K0 false first j l s
  | 0, _, _, h => by omega
  | m + 1, i, hi, hm => by
    simp only [spec_SkipOk_L1, spec_SkipOk_b1]
    by_cases h : i < l.length
    · rw [br_pos (by exact_mod_cast h), ix h, br_t, Int.toNat_natCast, getD_lt h, c_l20In hX hN _ _ hf, bindD_some, wrap_succ (by omega), drop_cons h]
      dsimp only
      by_cases e : l[i] ∈ first
      · have hc := List.count_pos_iff.2 e
        rw [br_neg (by omega), inFirst_L hX N n hN K0 K1 first l j s hf hl m (i + 1) (by omega) (by omega)]
        simp only [List.mem_cons, forall_eq_or_imp, e, true_and]
      · have hc : first.count l[i] = 0 := List.count_eq_zero.2 e
        rw [hc, br_pos (by omega), if_neg]
        intro h2
        exact e (h2 _ (List.mem_cons_self ..))
    · rw [br_neg (by exact_mod_cast h), drop_end h, if_pos (by simp)]
def atOk (s : Skip) (j : Nat) (l : List Int) (e : Int) : Prop := (nodeAt s e).2.1.length = height (nodeAt s e).1 ∧ (l.count e = 1 ↔ j < height (nodeAt s e).1)
theorem firsts_L {X : Ext} (hX : XOk X) (N n : Nat) (hN : W + 1 ≤ N) (K0 : Bool → List Int → Int → Skip → OB) (K1 : List Int → Int → Skip → OB) (first l : List Int) (j : Nat) (s : Skip) (hk : ∀ x ∈ s.2.1, x.1.size ≤ maxLen) (hr : ∀ x ∈ first, 0 ≤ x ∧ x < s.2.1.length) (hf : first.length ≤ 1048576) (hl : l.length ≤ 1048576) :
    ∀ (m i : Nat), i ≤ first.length → first.length - i < m → spec_SkipOk_L2 (DD X N) n K0 K1 m first j l i s = if ∀ x ∈ first.drop i, atOk s j l x then K1 first j s else K0 false first j s
  | 0, _, _, h => by omega
  | m + 1, i, hi, hm => by
    simp only [spec_SkipOk_L2, spec_SkipOk_b2]
    by_cases h : i < first.length
    · have hp := hr _ (List.getElem_mem h)
      have hx : nodeAt s first[i] ∈ s.2.1 := by
        show s.2.1.getD first[i].toNat dl ∈ s.2.1
        rw [getD_lt (by omega)]; exact List.getElem_mem _
      rw [br_pos (by exact_mod_cast h), ix h, br_t, Int.toNat_natCast, getD_lt h, ixn hp.1 hp.2, br_t]
      rw [show List.getD s.2.1 (Int.toNat first[i]) (ByteArray.empty, [], ()) = nodeAt s first[i] from rfl]
      rw [c_specHeight hX hN _ (hk _ hx), bindD_some, br_t, br_t, wrap_succ (by omega), drop_cons h]
      dsimp only
      by_cases h1 : (nodeAt s first[i]).2.1.length = height (nodeAt s first[i]).1
      · rw [bne_not h1, br_f, br_t, c_l20In hX hN _ _ hl, bindD_some]
        dsimp only
        by_cases h2 : l.count first[i] = 1 ↔ j < height (nodeAt s first[i]).1
        · have e : decide (decide (((l.count first[i] : Nat) : Int) = 1) = decide ((j : Int) < ((height (nodeAt s first[i]).1 : Nat) : Int))) = true := by
            rw [decide_eq_true_eq]
            by_cases h3 : j < height (nodeAt s first[i]).1
            · rw [decide_eq_true (by have := h2.2 h3; omega), decide_eq_true (by omega)]
            · rw [decide_eq_false (fun h4 => h3 (h2.1 (by omega))), decide_eq_false (by omega)]
          rw [e, Bool.not_true, br_f, firsts_L hX N n hN K0 K1 first l j s hk hr hf hl m (i + 1) (by omega) (by omega)]
          have ha : atOk s j l first[i] := ⟨h1, h2⟩
          simp only [List.mem_cons, forall_eq_or_imp, ha, true_and]
        · have e : decide (decide (((l.count first[i] : Nat) : Int) = 1) = decide ((j : Int) < ((height (nodeAt s first[i]).1 : Nat) : Int))) = false := by
            rw [decide_eq_false_iff_not]
            intro h3
            refine h2 ⟨fun h4 => ?_, fun h4 => ?_⟩
            · rw [decide_eq_true (by omega : ((l.count first[i] : Nat) : Int) = 1)] at h3
              have := of_decide_eq_true h3.symm; omega
            · rw [decide_eq_true (by omega : (j : Int) < ((height (nodeAt s first[i]).1 : Nat) : Int))] at h3
              have := of_decide_eq_true h3; omega
          rw [e, Bool.not_false, br_t, if_neg]
          intro h3
          exact h2 (h3 _ (List.mem_cons_self ..)).2
      · rw [bne_of h1, br_t, if_neg]
        intro h3
        exact h1 (h3 _ (List.mem_cons_self ..)).1
    · rw [br_neg (by exact_mod_cast h), drop_end h, if_pos (by simp)]
def laneOk (s : Skip) (j : Nat) : Prop := (lane s j).isSome ∧ (∀ x ∈ L s j, x ∈ L s 0) ∧ ∀ e ∈ L s 0, atOk s j (L s j) e
theorem specLanes_L {X : Ext} (hX : XOk X) (n : Nat) (hn : W + 1 ≤ n) {K0 : Bool → OB} {K1 : OB} (s : Skip) (hs : s.2.1.length ≤ 1048576) (hk : ∀ x ∈ s.2.1, x.1.size ≤ maxLen) (h4 : s.1.length = 4) :
    ∀ (d j m : Nat) (first : List Int), j + d = 4 → d < m → (0 < j → first = L s 0) → spec_SkipOk_L0 (DD X n) n K0 K1 m first j s = if ∀ i, j ≤ i → i < 4 → laneOk s i then K1 else K0 false
  | d, j, 0, _, _, h, _ => by omega
  | 0, j, m + 1, first, hj, _, _ => by
    have e4 : j = 4 := by omega
    subst e4
    simp only [spec_SkipOk_L0, spec_SkipOk_b0]
    rw [br_neg (by omega), if_pos (fun i h1 h2 => by omega)]
  | d + 1, j, m + 1, first, hj, hm, hfirst => by
    have hd := W_def
    have split_ : (∀ i, j ≤ i → i < 4 → laneOk s i) ↔ laneOk s j ∧ ∀ i, j + 1 ≤ i → i < 4 → laneOk s i :=
        ⟨fun h1 => ⟨h1 j (by omega) (by omega), fun k h2 h3 => h1 k (by omega) h3⟩, fun h1 k h2 h3 => by
          by_cases e : k = j
          · subst e; exact h1.1
          · exact h1.2 k (by omega) h3⟩
    have key : spec_SkipOk_LP1 (DD X n) n (spec_SkipOk_L0 (DD X n) n K0 K1 m) K0 K1 (L s 0) j (L s j) 0 s = if (∀ x ∈ L s j, x ∈ L s 0) ∧ ∀ e ∈ L s 0, atOk s j (L s j) e then spec_SkipOk_L0 (DD X n) n K0 K1 m (L s 0) (j + 1 : Nat) s else K0 false := by
      simp only [spec_SkipOk_LP1]
      have hl0 := (L_inc s 0).len
      have hlj := (L_inc s j).len
      have := inFirst_L hX n n hn (fun v0_0 v0_1 v0_2 v0_3 v0_4 => spec_SkipOk_x1_0 (DD X n) n (spec_SkipOk_L0 (DD X n) n K0 K1 m) K0 K1 v0_0 v0_1 v0_2 v0_3 v0_4) (fun v1_0 v1_1 v1_2 v1_3 => spec_SkipOk_x1_1 (DD X n) n (spec_SkipOk_L0 (DD X n) n K0 K1 m) K0 K1 (spec_SkipOk_LP2 (DD X n) n (spec_SkipOk_L0 (DD X n) n K0 K1 m) K0 K1) v1_0 v1_1 v1_2 v1_3) (L s 0) (L s j) j s (by omega) (by omega) n 0 (by omega) (by omega)
      rw [show ((0 : Nat) : Int) = 0 from rfl, List.drop_zero] at this
      rw [this]
      by_cases h1 : ∀ x ∈ L s j, x ∈ L s 0
      · rw [if_pos h1]
        simp only [spec_SkipOk_x1_1, spec_SkipOk_LP2]
        have := firsts_L hX n n hn (fun v0_0 v0_1 v0_2 v0_3 => spec_SkipOk_x2_0 (DD X n) n (spec_SkipOk_L0 (DD X n) n K0 K1 m) K0 K1 v0_0 v0_1 v0_2 v0_3) (fun v1_0 v1_1 v1_2 => spec_SkipOk_x2_1 (DD X n) n (spec_SkipOk_L0 (DD X n) n K0 K1 m) K0 K1 v1_0 v1_1 v1_2) (L s 0) (L s j) j s hk (L_inc s 0).rng (by omega) (by omega) n 0 (by omega) (by omega)
        rw [show ((0 : Nat) : Int) = 0 from rfl, List.drop_zero] at this
        rw [this]
        by_cases h2 : ∀ e ∈ L s 0, atOk s j (L s j) e
        · rw [if_pos h2, if_pos ⟨h1, h2⟩]
          simp only [spec_SkipOk_x2_1]
          rw [wrap_succ (by omega)]
        · rw [if_neg h2, if_neg (fun h => h2 h.2)]; rfl
      · rw [if_neg h1, if_neg (fun h => h1 h.1)]; rfl
    simp only [spec_SkipOk_L0, spec_SkipOk_b0]
    rw [br_pos (by omega), c_l20Lane hX hn s hs j (by omega), bindD_some]
    dsimp only
    have ih := specLanes_L hX n hn (K0 := K0) (K1 := K1) s hs hk h4 d (j + 1) m (L s 0) (by omega) (by omega) (fun _ => rfl)
    have e1 : br (decide ((j : Int) = 0)) (spec_SkipOk_LP1 (DD X n) n (spec_SkipOk_L0 (DD X n) n K0 K1 m) K0 K1 (L s j) j (L s j) 0 s) (spec_SkipOk_LP1 (DD X n) n (spec_SkipOk_L0 (DD X n) n K0 K1 m) K0 K1 first j (L s j) 0 s) =
        spec_SkipOk_LP1 (DD X n) n (spec_SkipOk_L0 (DD X n) n K0 K1 m) K0 K1 (L s 0) j (L s j) 0 s := by
      by_cases h0 : j = 0
      · subst h0; rw [br_pos (by rfl)]
      · rw [br_neg (by omega), hfirst (by omega)]
    cases hls : (lane s j).isSome with
    | false =>
      rw [Bool.not_false, br_t, if_neg]
      intro h
      have := (split_.1 h).1.1
      rw [hls] at this
      simp at this
    | true =>
      rw [Bool.not_true, br_f]
      refine e1.trans ?_
      rw [key, ih]
      by_cases h1 : (∀ x ∈ L s j, x ∈ L s 0) ∧ ∀ e ∈ L s 0, atOk s j (L s j) e
      · rw [if_pos h1]
        have hlo : laneOk s j := ⟨hls, h1⟩
        by_cases h2 : ∀ i, j + 1 ≤ i → i < 4 → laneOk s i
        · rw [if_pos h2, if_pos (split_.2 ⟨hlo, h2⟩)]
        · rw [if_neg h2, if_neg (fun h => h2 (split_.1 h).2)]
      · rw [if_neg h1, if_neg (fun h => h1 (split_.1 h).1.2)]
theorem count_nodup : ∀ {l : List Int} (h : l.Nodup) (e : Int), l.count e = if e ∈ l then 1 else 0
  | [], _, e => by simp
  | x :: l, h, e => by
    have h' := List.nodup_cons.1 h
    rw [List.count_cons, count_nodup h'.2 e]
    by_cases e1 : x = e
    · subst e1
      rw [if_neg h'.1, if_pos (List.mem_cons_self ..)]; simp
    · have e2 : (x == e) = false := by simpa using e1
      have e3 : ¬ e = x := fun h => e1 h.symm
      simp [e2, e3]
theorem ok_iff (s : Skip) : okP s ↔ s.1.length = 4 ∧ s.2.1.length ≤ 40 ∧ ∀ i, i < 4 → laneOk s i := by
  have cl4 : ∀ k : Int, cl s 4 k = (if k ∈ L s 0 then 1 else 0) + (if k ∈ L s 1 then 1 else 0) + (if k ∈ L s 2 then 1 else 0) + (if k ∈ L s 3 then 1 else 0) := by
    intro k; simp only [cl]; omega
  have mem_nat : ∀ {j : Nat} {e : Int}, e ∈ L s j → ∃ k : Nat, (k : Int) = e ∧ k < s.2.1.length := by
    intro j e h
    have := (L_inc s j).rng e h
    exact ⟨e.toNat, by omega, by omega⟩
  constructor
  · rintro ⟨h1, h2, h3, h4⟩
    -- a node in any lane is in just the lanes below its height
    have key : ∀ e : Int, (∃ j, j < 4 ∧ e ∈ L s j) → (nodeAt s e).2.1.length = height (nodeAt s e).1 ∧ ∀ i, i < 4 → (e ∈ L s i ↔ i < height (nodeAt s e).1) := by
      rintro e ⟨j, hj, he⟩
      obtain ⟨k, rfl, hk⟩ := mem_nat he
      have hc := cl4 (k : Int)
      have hpos : 0 < cl s 4 k := by
        rw [hc]
        have : j = 0 ∨ j = 1 ∨ j = 2 ∨ j = 3 := by omega
        rcases this with rfl | rfl | rfl | rfl <;> rw [if_pos he] <;> omega
      obtain ⟨n1, n2⟩ := h4 k hk hpos
      refine ⟨n1, ?_⟩
      have g0 := L_high s 0 (k : Int)
      have g1 := L_high s 1 (k : Int)
      have g2 := L_high s 2 (k : Int)
      have g3 := L_high s 3 (k : Int)
      rw [n1] at g0 g1 g2 g3 n2
      rw [hc] at n2
      intro i hi
      have : i = 0 ∨ i = 1 ∨ i = 2 ∨ i = 3 := by omega
      rcases this with rfl | rfl | rfl | rfl <;> by_cases m0 : (k : Int) ∈ L s 0 <;> by_cases m1 : (k : Int) ∈ L s 1 <;> by_cases m2 : (k : Int) ∈ L s 2 <;> by_cases m3 : (k : Int) ∈ L s 3 <;>
        simp only [m0, m1, m2, m3, if_true, if_false, true_iff, false_iff, forall_const, true_implies] at * <;> omega
    refine ⟨h1, h2, fun i hi => ⟨h3 i hi, fun x hx => ?_, fun e he => ?_⟩⟩
    · have := key x ⟨i, hi, hx⟩
      exact (this.2 0 (by omega)).2 (by have := height_range (nodeAt s x).1; omega)
    · have := key e ⟨0, by omega, he⟩
      refine ⟨this.1, ?_⟩
      rw [count_nodup (L_inc s i).nodup, ← this.2 i hi]
      split <;> simp_all
  · rintro ⟨h1, h2, h3⟩
    refine ⟨h1, h2, fun j hj => (h3 j hj).1, fun k hk hpos => ?_⟩
    have hc := cl4 (k : Int)
    have h0 : (k : Int) ∈ L s 0 := by
      refine Classical.byContradiction fun hn => ?_
      have f0 : ∀ j, j < 4 → (k : Int) ∉ L s j := fun j hj hm => hn ((h3 j hj).2.1 _ hm)
      rw [hc, if_neg (f0 0 (by omega)), if_neg (f0 1 (by omega)), if_neg (f0 2 (by omega)), if_neg (f0 3 (by omega))] at hpos
      omega
    have hm : ∀ j, j < 4 → ((k : Int) ∈ L s j ↔ j < height (nodeAt s k).1) := by
      intro j hj
      rw [← ((h3 j hj).2.2 _ h0).2, count_nodup (L_inc s j).nodup]
      split <;> simp_all
    have hl := ((h3 0 (by omega)).2.2 _ h0).1
    refine ⟨hl, ?_⟩
    rw [hc, hl]
    have hr := height_range (nodeAt s k).1
    have m0 := hm 0 (by omega)
    have m1 := hm 1 (by omega)
    have m2 := hm 2 (by omega)
    have m3 := hm 3 (by omega)
    simp only [m0, m1, m2, m3]
    generalize height (nodeAt s k).1 = hh at hr ⊢
    have : hh = 1 ∨ hh = 2 ∨ hh = 3 ∨ hh = 4 := by omega
    rcases this with rfl | rfl | rfl | rfl <;> rfl
theorem c_specSkipOk {X : Ext} (hX : XOk X) {n : Nat} (hn : W + 2 ≤ n) (s : Skip) (hs : s.2.1.length ≤ 1048576) (hk : ∀ x ∈ s.2.1, x.1.size ≤ maxLen) : C_spec_SkipOk (DD X n) s = some ((decide (okP s), ()), ()) := by
  obtain ⟨n, rfl⟩ : ∃ k, n = k + 1 := ⟨n - 1, by omega⟩
  have hd := W_def
  have hok := ok_iff s
  rw [S_spec_SkipOk hX]
  simp only [F_spec_SkipOk, spec_SkipOk_e, spec_SkipOk_LP0]
  by_cases h4 : s.1.length = 4
  · have e4 : ((s.1.length : Int) != 4) = false := by rw [h4]; rfl
    rw [e4, cond_false]
    by_cases h40 : s.2.1.length ≤ 40
    · rw [br_neg (by omega)]
      have := specLanes_L hX n (by omega) (K0 := fun v0_0 => spec_SkipOk_x0_0 (DD X n) n v0_0) (K1 := spec_SkipOk_x0_1 (DD X n) n) s hs hk h4 4 0 n [] rfl (by omega) (fun h => by omega)
      rw [show ((0 : Nat) : Int) = 0 from rfl] at this
      rw [this]
      by_cases hall : ∀ i, 0 ≤ i → i < 4 → laneOk s i
      · rw [if_pos hall, decide_eq_true (hok.2 ⟨h4, h40, fun i hi => hall i (by omega) hi⟩)]; rfl
      · rw [if_neg hall, decide_eq_false (fun h : okP s => hall (fun i _ hi => (hok.1 h).2.2 i hi))]; rfl
    · rw [br_pos (by omega), decide_eq_false (fun h : okP s => h40 h.2.1)]
  · have e4 : ((s.1.length : Int) != 4) = true := by simp; omega
    rw [e4, cond_true, br_t, decide_eq_false (fun h : okP s => h4 h.1)]
end Go.G

namespace Go.G
open Go Go.V
open Classical
noncomputable def keys (s : Skip) : List ByteArray := if okP s then (L s 0).map fun p => (nodeAt s p).1 else []
theorem implAll_L (D : Den ctx) (n : Nat) (K : List ByteArray → Option ((List ByteArray × Unit) × Unit)) (s : Skip) (l : List Int) (hr : ∀ x ∈ l, 0 ≤ x ∧ x < s.2.1.length) (hl : l.length ≤ 1048576) : ∀ (m i : Nat) (o : List ByteArray), i ≤ l.length → l.length - i < m → o.length ≤ i →
    impl_SkipAll_L0 D n K m l.length i s o l = K (o ++ (l.drop i).map fun p => (nodeAt s p).1)
  | 0, _, _, _, h, _ => by omega
  | m + 1, i, o, hi, hf, ho => by
    simp only [impl_SkipAll_L0, impl_SkipAll_b0]
    have hb := bound_def
    by_cases h : i < l.length
    · have hp := hr _ (List.getElem_mem h)
      rw [br_pos (by exact_mod_cast h), ix h, br_t, Int.toNat_natCast, getD_lt h, ixn hp.1 hp.2, br_t, br_pos (by omega), wrap_succ (by omega)]
      have e := implAll_L D n K s l hr hl m (i + 1) (o ++ [(nodeAt s l[i]).1]) (by omega) (by omega) (by simp; omega)
      refine Eq.trans e ?_
      rw [drop_cons h, List.map_cons, List.append_assoc]; rfl
    · rw [br_neg (by exact_mod_cast h), drop_end h]; simp
theorem c_implSkipAll {X : Ext} (hX : XOk X) {n : Nat} (hn : W + 3 ≤ n) (s : Skip) (hs : s.2.1.length ≤ 1048576) (hk : ∀ x ∈ s.2.1, x.1.size ≤ maxLen) : C_impl_SkipAll (DD X n) s = some ((keys s, ()), ()) := by
  obtain ⟨n, rfl⟩ : ∃ k, n = k + 1 := ⟨n - 1, by omega⟩
  have hd := W_def
  rw [S_impl_SkipAll hX]
  simp only [F_impl_SkipAll, impl_SkipAll_e, impl_SkipAll_LP0]
  rw [c_implSkipOk hX (by omega) s hs hk, bindD_some]
  dsimp only
  unfold keys
  by_cases h : okP s
  · have hl := (L_inc s 0).len
    rw [decide_eq_true h, Bool.not_true, br_f, if_pos h]
    have e := c_laneOf hX (n := n) (by omega) s hs 0 (by rw [h.1]; omega)
    rw [show ((0 : Nat) : Int) = 0 from rfl] at e
    rw [e, bindD_some]
    have := implAll_L (DD X n) n (fun v => impl_SkipAll_x0_0 (DD X n) n v) s (L s 0) (L_inc s 0).rng (by omega) n 0 [] (by omega) (by omega) (by simp)
    rw [show ((0 : Nat) : Int) = 0 from rfl, List.drop_zero, List.nil_append] at this
    exact this
  · rw [decide_eq_false h, Bool.not_false, br_t, if_neg h]
theorem specAll_L (D : Den ctx) (n : Nat) (K : List ByteArray → Option ((List ByteArray × Unit) × Unit)) (s : Skip) (l : List Int) (hr : ∀ x ∈ l, 0 ≤ x ∧ x < s.2.1.length) (hl : l.length ≤ 1048576) : ∀ (m i : Nat) (o : List ByteArray), i ≤ l.length → l.length - i < m → o.length ≤ i →
    spec_SkipAll_L0 D n K m i s o l = K (o ++ (l.drop i).map fun p => (nodeAt s p).1)
  | 0, _, _, _, h, _ => by omega
  | m + 1, i, o, hi, hf, ho => by
    simp only [spec_SkipAll_L0, spec_SkipAll_b0]
    have hb := bound_def
    by_cases h : i < l.length
    · have hp := hr _ (List.getElem_mem h)
      rw [br_pos (by exact_mod_cast h), ix h, br_t, Int.toNat_natCast, getD_lt h, ixn hp.1 hp.2, br_t, br_pos (by omega), wrap_succ (by omega)]
      have e := specAll_L D n K s l hr hl m (i + 1) (o ++ [(nodeAt s l[i]).1]) (by omega) (by omega) (by simp; omega)
      refine Eq.trans e ?_
      rw [drop_cons h, List.map_cons, List.append_assoc]; rfl
    · rw [br_neg (by exact_mod_cast h), drop_end h]; simp
theorem c_specSkipAll {X : Ext} (hX : XOk X) {n : Nat} (hn : W + 3 ≤ n) (s : Skip) (hs : s.2.1.length ≤ 1048576) (hk : ∀ x ∈ s.2.1, x.1.size ≤ maxLen) : C_spec_SkipAll (DD X n) s = some ((keys s, ()), ()) := by
  obtain ⟨n, rfl⟩ : ∃ k, n = k + 1 := ⟨n - 1, by omega⟩
  have hd := W_def
  rw [S_spec_SkipAll hX]
  simp only [F_spec_SkipAll, spec_SkipAll_e, spec_SkipAll_LP0]
  rw [c_specSkipOk hX (by omega) s hs hk, bindD_some]
  dsimp only
  unfold keys
  by_cases h : okP s
  · have hl := (L_inc s 0).len
    rw [decide_eq_true h, Bool.not_true, br_f, if_pos h]
    have e := c_l20Lane hX (n := n) (by omega) s hs 0 (by rw [h.1]; omega)
    rw [show ((0 : Nat) : Int) = 0 from rfl] at e
    rw [e, bindD_some]
    have := specAll_L (DD X n) n (fun v => spec_SkipAll_x0_0 (DD X n) n v) s (L s 0) (L_inc s 0).rng (by omega) n 0 [] (by omega) (by omega) (by simp)
    rw [show ((0 : Nat) : Int) = 0 from rfl, List.drop_zero, List.nil_append] at this
    exact this
  · rw [decide_eq_false h, Bool.not_false, br_t, if_neg h]
theorem keys_len (s : Skip) : (keys s).length ≤ s.2.1.length := by
  unfold keys
  split
  · rw [List.length_map]; exact (L_inc s 0).len
  · simp
end Go.G

namespace Go.G
open Go Go.V
open Classical
def nxt (s : Skip) (p : Int) (j : Nat) : Int := if p = -1 then s.1.getD j 0 else (nodeAt s p).2.1.getD j 0
def path (s : Skip) (j : Nat) : Int → List Int → Prop
  | p, [] => p = -1
  | p, x :: r => p = x ∧ 0 ≤ x ∧ path s j ((nodeAt s x).2.1.getD j 0) r
theorem chain_path {s : Skip} {j : Nat} : ∀ (f : Nat) {p : Int} {out l : List Int}, chain s j f p out = some l → ∃ r, l = out ++ r ∧ path s j p r
  | 0, _, _, _, h => by simp [chain] at h
  | f + 1, p, out, l, h => by
    simp only [chain] at h
    split at h
    · rename_i hp
      simp only [Option.some.injEq] at h; subst h
      exact ⟨[], by simp, hp⟩
    · split at h
      · simp at h
      · rename_i hb
        obtain ⟨r, rfl, hr⟩ := chain_path f h
        exact ⟨p :: r, by simp, rfl, (not_bad.1 hb).1.1, hr⟩
theorem L_path {s : Skip} {j : Nat} (h : (lane s j).isSome) : path s j (s.1.getD j 0) (L s j) := by
  unfold L
  obtain ⟨l, hl⟩ := Option.isSome_iff_exists.1 h
  rw [hl]
  obtain ⟨r, e, hr⟩ := chain_path _ hl
  rw [List.nil_append] at e
  subst e; exact hr
def aft : List Int → Int → List Int
  | [], _ => []
  | x :: l, a => if x = a then l else aft l a
def rest (l : List Int) (a : Int) : List Int := if a = -1 then l else aft l a
theorem aft_len : ∀ (l : List Int) (a : Int), (aft l a).length ≤ l.length
  | [], _ => Nat.le_refl _
  | x :: l, a => by simp only [aft]; split <;> simp <;> have := aft_len l a <;> omega
theorem rest_len (l : List Int) (a : Int) : (rest l a).length ≤ l.length := by
  unfold rest; split
  · exact Nat.le_refl _
  · exact aft_len l a
theorem aft_mem : ∀ (l : List Int) (a : Int), ∀ x ∈ aft l a, x ∈ l
  | [], _, x, h => by simp [aft] at h
  | y :: l, a, x, h => by
    simp only [aft] at h
    split at h
    · exact List.mem_cons_of_mem _ h
    · exact List.mem_cons_of_mem _ (aft_mem l a x h)
theorem rest_mem (l : List Int) (a : Int) : ∀ x ∈ rest l a, x ∈ l := by
  unfold rest; split
  · exact fun x h => h
  · exact aft_mem l a
theorem aft_path {s : Skip} {j : Nat} : ∀ {l : List Int} {p a : Int}, path s j p l → a ∈ l → path s j ((nodeAt s a).2.1.getD j 0) (aft l a)
  | [], _, _, _, h => by simp at h
  | x :: l, p, a, hp, h => by
    obtain ⟨rfl, h0, hp⟩ := hp
    simp only [aft]
    by_cases e : p = a
    · subst e; rw [if_pos rfl]; exact hp
    · rw [if_neg e]
      exact aft_path hp (by rcases List.mem_cons.1 h with h | h; exact absurd h.symm e; exact h)
theorem rest_path {s : Skip} {j : Nat} {a : Int} (h : (lane s j).isSome) (ha : a = -1 ∨ a ∈ L s j) : path s j (nxt s a j) (rest (L s j) a) := by
  unfold rest nxt
  by_cases e : a = -1
  · rw [if_pos e, if_pos e]; exact L_path h
  · rw [if_neg e, if_neg e]; exact aft_path (L_path h) (ha.resolve_left e)
noncomputable def walk (s : Skip) (key : ByteArray) : Int → Nat → List Int → Int × Nat
  | a, c, [] => (a, c)
  | a, c, x :: r => if klt (nodeAt s x).1 key then walk s key x (c + 1) r else (a, c + 1)
theorem walk_mem {s : Skip} {key : ByteArray} : ∀ (r : List Int) (a : Int) (c : Nat), (walk s key a c r).1 = a ∨ (walk s key a c r).1 ∈ r
  | [], a, c => .inl rfl
  | x :: r, a, c => by
    simp only [walk]
    split
    · rcases walk_mem r x (c + 1) with h | h
      · right; rw [h]; exact List.mem_cons_self ..
      · right; exact List.mem_cons_of_mem _ h
    · exact .inl rfl
theorem walk_cnt {s : Skip} {key : ByteArray} : ∀ (r : List Int) (a : Int) (c : Nat), (walk s key a c r).2 ≤ c + r.length
  | [], a, c => Nat.le_refl _
  | x :: r, a, c => by
    simp only [walk, List.length_cons]
    split
    · have := walk_cnt r x (c + 1) (s := s) (key := key); omega
    · simp only; omega
noncomputable def stp (s : Skip) (key : ByteArray) : Nat → Int × Nat
  | 0 => (-1, 0)
  | d + 1 => walk s key (stp s key d).1 (stp s key d).2 (rest (L s (3 - d)) (stp s key d).1)
theorem ok_down {s : Skip} (h : okP s) {i j : Nat} (hij : i ≤ j) (hj : j < 4) {e : Int} (he : e ∈ L s j) : e ∈ L s i := by
  obtain ⟨h1, h2, h3⟩ := (ok_iff s).1 h
  have h0 := (h3 j hj).2.1 e he
  have a1 := ((h3 j hj).2.2 e h0).2
  have a2 := ((h3 i (by omega)).2.2 e h0).2
  rw [count_nodup (L_inc s j).nodup, if_pos he] at a1
  rw [count_nodup (L_inc s i).nodup] at a2
  have := a1.1 rfl
  have := a2.2 (by omega)
  refine Classical.byContradiction fun hn => ?_
  rw [if_neg hn] at this
  omega
theorem stp_in {s : Skip} (h : okP s) (key : ByteArray) : ∀ d, d ≤ 4 → (stp s key d).1 = -1 ∨ ∀ i, i + d ≤ 4 → (stp s key d).1 ∈ L s i
  | 0, _ => .inl rfl
  | d + 1, hd => by
    simp only [stp]
    rcases walk_mem (s := s) (key := key) (rest (L s (3 - d)) (stp s key d).1) (stp s key d).1 (stp s key d).2 with e | e
    · rw [e]
      rcases stp_in h key d (by omega) with h1 | h1
      · exact .inl h1
      · exact .inr fun i hi => h1 i (by omega)
    · right
      intro i hi
      exact ok_down h (by omega : i ≤ 3 - d) (by omega) (rest_mem _ _ _ e)
theorem stp_at {s : Skip} (h : okP s) (key : ByteArray) {d : Nat} (hd : d < 4) : (stp s key d).1 = -1 ∨ (stp s key d).1 ∈ L s (3 - d) := by
  rcases stp_in h key d (by omega) with h1 | h1
  · exact .inl h1
  · exact .inr (h1 _ (by omega))
theorem stp_cnt (s : Skip) (key : ByteArray) : ∀ d, (stp s key d).2 ≤ d * s.2.1.length
  | 0 => by simp [stp]
  | d + 1 => by
    simp only [stp]
    have h1 := walk_cnt (s := s) (key := key) (rest (L s (3 - d)) (stp s key d).1) (stp s key d).1 (stp s key d).2
    have h2 := stp_cnt s key d
    have h3 := rest_len (L s (3 - d)) (stp s key d).1
    have h4 := (L_inc s (3 - d)).len
    rw [Nat.add_mul]
    omega
def onLane (s : Skip) (p : Int) (j : Nat) : Prop := p = -1 ∨ (0 ≤ p ∧ p < s.2.1.length ∧ j < (nodeAt s p).2.1.length)
theorem onLane_of {s : Skip} {p : Int} {j : Nat} (h : p = -1 ∨ p ∈ L s j) : onLane s p j := h.imp id fun h => ⟨((L_inc s j).rng p h).1, ((L_inc s j).rng p h).2, L_high s j p h⟩
theorem c_after {X : Ext} (hX : XOk X) {n : Nat} (hn : 1 ≤ n) (s : Skip) (p : Int) (j : Nat) (hj : j < s.1.length) (hp : onLane s p j) : C_impl_Skip_after (DD X n) s p j = some ((nxt s p j, ()), ()) := by
  obtain ⟨n, rfl⟩ : ∃ k, n = k + 1 := ⟨n - 1, by omega⟩
  rw [S_impl_Skip_after hX]
  simp only [F_impl_Skip_after, impl_Skip_after_e, nxt]
  by_cases h : p = -1
  · rw [br_pos h, if_pos h, ix hj, br_t, Int.toNat_natCast]
  · obtain ⟨h1, h2, h3⟩ := hp.resolve_left h
    have e : (decide (0 ≤ (j : Int)) && decide ((j : Int) < ((List.getD s.2.1 (Int.toNat p) (ByteArray.empty, [], ())).2.1.length : Int))) = true := ix h3
    rw [br_neg h, if_neg h, ixn h1 h2, br_t, e, br_t, Int.toNat_natCast]; rfl
theorem c_l20Next {X : Ext} (hX : XOk X) {n : Nat} (hn : 1 ≤ n) (s : Skip) (p : Int) (j : Nat) (hj : j < s.1.length) (hp : onLane s p j) : C_spec_l20Next (DD X n) s p j = some ((nxt s p j, ()), ()) := by
  obtain ⟨n, rfl⟩ : ∃ k, n = k + 1 := ⟨n - 1, by omega⟩
  rw [S_spec_l20Next hX]
  simp only [F_spec_l20Next, spec_l20Next_e, nxt]
  by_cases h : p = -1
  · rw [br_pos (by omega), if_pos h, ix hj, br_t, Int.toNat_natCast]
  · obtain ⟨h1, h2, h3⟩ := hp.resolve_left h
    have e : (decide (0 ≤ (j : Int)) && decide ((j : Int) < ((List.getD s.2.1 (Int.toNat p) (ByteArray.empty, [], ())).2.1.length : Int))) = true := ix h3
    rw [br_neg (by omega), if_neg h, ixn h1 h2, br_t, e, br_t, Int.toNat_natCast]; rfl
theorem aheadIn_L {X : Ext} (hX : XOk X) (N n : Nat) (hN : 1 ≤ N) (K0 : ByteArray → Int → Int → Int → Skip → List Int → Option ((List Int × Int × Unit) × Unit)) (s : Skip) (j : Nat) (hj : j < s.1.length) (key : ByteArray) (o : List Int) :
    ∀ (r : List Int) (m : Nat) (p : Int) (c : Nat), r.length < m → onLane s p j → path s j (nxt s p j) r → (∀ x ∈ r, 0 ≤ x ∧ x < s.2.1.length ∧ j < (nodeAt s x).2.1.length) → c + r.length ≤ 1099511627776 →
    impl_ahead_L1 (DD X N) n K0 m key c p j s o = K0 key (walk s key p c r).2 (walk s key p c r).1 j s o
  | _, 0, _, _, h, _, _, _, _ => by omega
  | [], m + 1, p, c, _, hp, hpa, _, _ => by
    simp only [impl_ahead_L1, impl_ahead_b1, walk]
    rw [c_after hX hN s p j hj hp, bindD_some]
    dsimp only
    have hpa' : nxt s p j = -1 := hpa
    rw [br_pos hpa']
  | x :: r, m + 1, p, c, hm, hp, hpa, hr, hc => by
    simp only [impl_ahead_L1, impl_ahead_b1, walk]
    obtain ⟨e, h0, hpa⟩ := hpa
    obtain ⟨x0, x1, x2⟩ := hr x (List.mem_cons_self ..)
    simp only [List.length_cons] at hm hc
    rw [c_after hX hN s p j hj hp, bindD_some]
    dsimp only
    rw [e, br_neg (by omega), ixn x0 x1, br_t]
    have ex : nxt s x j = (nodeAt s x).2.1.getD j 0 := by unfold nxt; rw [if_neg (by omega)]
    have ew : IntKind.wrap IntKind.i64 ((c : Int) + 1) = ((c + 1 : Nat) : Int) := wrap_succ (by omega)
    by_cases hk : klt (nodeAt s x).1 key
    · have e4 : Op.bytesLess (List.getD s.2.1 (Int.toNat x) (ByteArray.empty, [], ())).1.toList key.toList = true := hk
      rw [e4, Bool.not_true, br_f, ew, if_pos hk]
      exact aheadIn_L hX N n hN K0 s j hj key o r m x (c + 1) (by omega) (.inr ⟨x0, x1, x2⟩) (by rw [ex]; exact hpa) (fun y hy => hr y (List.mem_cons_of_mem _ hy)) (by omega)
    · have e4 : Op.bytesLess (List.getD s.2.1 (Int.toNat x) (ByteArray.empty, [], ())).1.toList key.toList = false := bl_false hk
      rw [e4, Bool.not_false, br_t, ew, if_neg hk]
noncomputable def bef (s : Skip) (key : ByteArray) (j : Nat) : Int := (stp s key (4 - j)).1
theorem ahead_L {X : Ext} (hX : XOk X) (n : Nat) (hn : W + 1 ≤ n) (K0 : Int → List Int → Option ((List Int × Int × Unit) × Unit)) (s : Skip) (h : okP s) (key : ByteArray) :
    ∀ (d m : Nat) (o : List Int), d ≤ 4 → 4 - d < m → o.length = 4 → (∀ i, i < 4 → 4 - d ≤ i → o.getD i 0 = bef s key i) →
    ∃ o', o'.length = 4 ∧ (∀ i, i < 4 → o'.getD i 0 = bef s key i) ∧ impl_ahead_L0 (DD X n) n K0 m key (stp s key d).2 (stp s key d).1 (3 - (d : Int)) s o = K0 (stp s key 4).2 o'
  | d, 0, _, _, hm, _, _ => by omega
  | d, m + 1, o, hd, hm, ho, hob => by
    have hW := W_def
    have h40 := h.2.1
    have hcnt := stp_cnt s key d
    have hmul : d * s.2.1.length ≤ 4 * 40 := Nat.mul_le_mul hd h40
    by_cases e4 : d = 4
    · subst e4
      refine ⟨o, ho, fun i hi => hob i hi (by omega), ?_⟩
      simp only [impl_ahead_L0, impl_ahead_b0]
      rw [br_neg (by omega)]
    · have hlt : d < 4 := by omega
      have hat := stp_at h key hlt
      have hsome := h.2.2.1 (3 - d) (by omega)
      have hlen := rest_len (L s (3 - d)) (stp s key d).1
      have hll := (L_inc s (3 - d)).len
      have hj : (3 - (d : Int)) = ((3 - d : Nat) : Int) := by omega
      have e1 := aheadIn_L hX n n (by omega) (fun v0_0 v0_1 v0_2 v0_3 v0_4 v0_5 => impl_ahead_x1_0 (DD X n) n (impl_ahead_L0 (DD X n) n K0 m) K0 v0_0 v0_1 v0_2 v0_3 v0_4 v0_5) s (3 - d) (by rw [h.1]; omega) key o (rest (L s (3 - d)) (stp s key d).1) n (stp s key d).1 (stp s key d).2 (by omega)
        (onLane_of hat) (rest_path hsome hat) (fun x hx => by
          have hx' := rest_mem _ _ _ hx
          exact ⟨((L_inc s _).rng x hx').1, ((L_inc s _).rng x hx').2, L_high s _ x hx'⟩) (by omega)
      obtain ⟨o', i1, i2, i3⟩ := ahead_L hX n hn K0 s h key (d + 1) m (o.set (3 - d) (stp s key (d + 1)).1) (by omega) (by omega) (by simpa using ho) (fun i hi hge => by
        rw [getD_set' (by omega)]
        by_cases e : i = 3 - d
        · rw [if_pos e]; unfold bef; congr 2; omega
        · rw [if_neg e]; exact hob i hi (by omega))
      refine ⟨o', i1, i2, ?_⟩
      simp only [impl_ahead_L0, impl_ahead_b0]
      rw [br_pos (by omega), hj]
      simp only [impl_ahead_LP1]
      rw [e1]
      simp only [impl_ahead_x1_0]
      have ec : (decide (0 ≤ ((3 - d : Nat) : Int)) && decide (((3 - d : Nat) : Int) < (o.length : Int))) = true := ix (by omega)
      rw [ec, br_t, Int.toNat_natCast, wrap_id (by omega) (by omega)]
      rw [show ((3 - d : Nat) : Int) - 1 = 3 - ((d + 1 : Nat) : Int) by omega]
      exact i3
theorem c_ahead {X : Ext} (hX : XOk X) {n : Nat} (hn : W + 2 ≤ n) (s : Skip) (h : okP s) (key : ByteArray) :
    ∃ o', o'.length = 4 ∧ (∀ i, i < 4 → o'.getD i 0 = bef s key i) ∧ C_impl_ahead (DD X n) s key = some ((o', ((stp s key 4).2 : Int), ()), ()) := by
  obtain ⟨n, rfl⟩ : ∃ k, n = k + 1 := ⟨n - 1, by omega⟩
  have hW := W_def
  obtain ⟨o', i1, i2, i3⟩ := ahead_L hX n (by omega) (fun v0_0 v0_1 => impl_ahead_x0_0 (DD X n) n v0_0 v0_1) s h key 0 n (List.replicate (Int.toNat 4) 0) (by omega) (by omega) (by rfl) (fun i hi hge => by omega)
  refine ⟨o', i1, i2, ?_⟩
  rw [S_impl_ahead hX]
  simp only [F_impl_ahead, impl_ahead_e, impl_ahead_LP0]
  exact i3
theorem seek_L {X : Ext} (hX : XOk X) (N n : Nat) (hN : 1 ≤ N) (K0 : Int → Int → Skip → Option ((ByteArray × Int × Bool × Unit) × Unit)) (s : Skip) (j : Nat) (hj : j < s.1.length) (key : ByteArray) :
    ∀ (r : List Int) (m : Nat) (p : Int) (c : Nat), r.length < m → onLane s p j → path s j (nxt s p j) r → (∀ x ∈ r, 0 ≤ x ∧ x < s.2.1.length ∧ j < (nodeAt s x).2.1.length) → c + r.length ≤ 1099511627776 → j < 100 →
    ∃ m', m ≤ m' + r.length + 1 ∧ spec_SkipSeek_L0 (DD X N) n K0 m key p c j s = spec_SkipSeek_L0 (DD X N) n K0 m' key (walk s key p c r).1 (walk s key p c r).2 ((j : Int) - 1) s
  | _, 0, _, _, h, _, _, _, _, _ => by omega
  | [], m + 1, p, c, _, hp, hpa, _, _, hj' => by
    refine ⟨m, by simp, ?_⟩
    simp only [spec_SkipSeek_L0, spec_SkipSeek_b0, walk]
    have hpa' : nxt s p j = -1 := hpa
    rw [br_pos (by omega), c_l20Next hX hN s p j hj hp, bindD_some]
    dsimp only
    rw [hpa', br_neg (by omega), br_neg (by omega), wrap_id (by omega) (by omega)]
  | x :: r, m + 1, p, c, hm, hp, hpa, hr, hc, hj' => by
    obtain ⟨e, h0, hpa⟩ := hpa
    obtain ⟨x0, x1, x2⟩ := hr x (List.mem_cons_self ..)
    simp only [List.length_cons] at hm hc
    have ex : nxt s x j = (nodeAt s x).2.1.getD j 0 := by unfold nxt; rw [if_neg (by omega)]
    have ew : IntKind.wrap IntKind.i64 ((c : Int) + 1) = ((c + 1 : Nat) : Int) := wrap_succ (by omega)
    by_cases hk : klt (nodeAt s x).1 key
    · obtain ⟨m', i1, i2⟩ := seek_L hX N n hN K0 s j hj key r m x (c + 1) (by omega) (.inr ⟨x0, x1, x2⟩) (by rw [ex]; exact hpa) (fun y hy => hr y (List.mem_cons_of_mem _ hy)) (by omega) hj'
      refine ⟨m', by simp only [List.length_cons]; omega, ?_⟩
      simp only [spec_SkipSeek_L0, spec_SkipSeek_b0, walk]
      have e4 : Op.bytesLess (List.getD s.2.1 (Int.toNat x) (ByteArray.empty, [], ())).1.toList key.toList = true := hk
      rw [br_pos (by omega), c_l20Next hX hN s p j hj hp, bindD_some]
      dsimp only
      rw [e, br_pos (by omega), br_pos (by omega), ixn x0 x1, br_t, e4, br_t, ew, if_pos hk]
      exact i2
    · refine ⟨m, by simp only [List.length_cons]; omega, ?_⟩
      simp only [spec_SkipSeek_L0, spec_SkipSeek_b0, walk]
      have e4 : Op.bytesLess (List.getD s.2.1 (Int.toNat x) (ByteArray.empty, [], ())).1.toList key.toList = false := bl_false hk
      rw [br_pos (by omega), c_l20Next hX hN s p j hj hp, bindD_some]
      dsimp only
      rw [e, br_pos (by omega), br_pos (by omega), ixn x0 x1, br_t, e4, br_f, ew, if_neg hk, wrap_id (by omega) (by omega)]
theorem seeks_L {X : Ext} (hX : XOk X) (n : Nat) (hn : W + 1 ≤ n) (K0 : Int → Int → Skip → Option ((ByteArray × Int × Bool × Unit) × Unit)) (s : Skip) (h : okP s) (key : ByteArray) :
    ∀ (e d m : Nat), d + e = 4 → e * 100 < m → spec_SkipSeek_L0 (DD X n) n K0 m key (stp s key d).1 (stp s key d).2 (3 - (d : Int)) s = K0 (stp s key 4).1 (stp s key 4).2 s
  | 0, d, m, hd, hm => by
    obtain rfl : d = 4 := by omega
    obtain ⟨m, rfl⟩ : ∃ k, m = k + 1 := ⟨m - 1, by omega⟩
    simp only [spec_SkipSeek_L0, spec_SkipSeek_b0]
    rw [br_neg (by omega)]
  | e + 1, d, m, hd, hm => by
    have hat := stp_at h key (d := d) (by omega)
    have hsome := h.2.2.1 (3 - d) (by omega)
    have hlen := rest_len (L s (3 - d)) (stp s key d).1
    have hll := (L_inc s (3 - d)).len
    have h40 := h.2.1
    have hcnt := stp_cnt s key d
    have hmul : d * s.2.1.length ≤ 4 * 40 := Nat.mul_le_mul (by omega) h40
    obtain ⟨m', i1, i2⟩ := seek_L hX n n (by have := W_def; omega) K0 s (3 - d) (by rw [h.1]; omega) key (rest (L s (3 - d)) (stp s key d).1) m (stp s key d).1 (stp s key d).2 (by omega)
      (onLane_of hat) (rest_path hsome hat) (fun x hx => by
        have hx' := rest_mem _ _ _ hx
        exact ⟨((L_inc s _).rng x hx').1, ((L_inc s _).rng x hx').2, L_high s _ x hx'⟩) (by omega) (by omega)
    rw [show (3 - (d : Int)) = ((3 - d : Nat) : Int) by omega, i2, show ((3 - d : Nat) : Int) - 1 = 3 - ((d + 1 : Nat) : Int) by omega]
    exact seeks_L hX n hn K0 s h key e (d + 1) m' (by omega) (by omega)
noncomputable def seekR (s : Skip) (key : ByteArray) : ByteArray × Int × Bool × Unit :=
  if okP s then (if nxt s (bef s key 0) 0 = -1 then (ByteArray.mk #[], ((stp s key 4).2 : Int), false, ()) else ((nodeAt s (nxt s (bef s key 0) 0)).1, ((stp s key 4).2 : Int), true, ())) else (ByteArray.mk #[], 0, false, ())
theorem path_head {s : Skip} {j : Nat} {p : Int} {l : List Int} (h : path s j p l) : p = -1 ∨ p ∈ l := by
  cases l with
  | nil => exact .inl h
  | cons x r => right; rw [h.1]; exact List.mem_cons_self ..
theorem nxt_in {s : Skip} (h : okP s) (key : ByteArray) : nxt s (bef s key 0) 0 = -1 ∨ nxt s (bef s key 0) 0 ∈ L s 0 := by
  have hb : bef s key 0 = -1 ∨ bef s key 0 ∈ L s 0 := by
    rcases stp_in h key 4 (by omega) with h1 | h1
    · exact .inl h1
    · exact .inr (h1 0 (by omega))
  rcases path_head (rest_path (h.2.2.1 0 (by omega)) hb) with h1 | h1
  · exact .inl h1
  · exact .inr (rest_mem _ _ _ h1)
theorem bef_on {s : Skip} (h : okP s) (key : ByteArray) {j : Nat} (hj : j < 4) : bef s key j = -1 ∨ bef s key j ∈ L s j := by
  rcases stp_in h key (4 - j) (by omega) with h1 | h1
  · exact .inl h1
  · exact .inr (h1 j (by omega))
theorem c_implSkipSeek {X : Ext} (hX : XOk X) {n : Nat} (hn : W + 3 ≤ n) (s : Skip) (hs : s.2.1.length ≤ 1048576) (hk : ∀ x ∈ s.2.1, x.1.size ≤ maxLen) (key : ByteArray) : C_impl_SkipSeek (DD X n) s key = some ((seekR s key), ()) := by
  obtain ⟨n, rfl⟩ : ∃ k, n = k + 1 := ⟨n - 1, by omega⟩
  have hW := W_def
  rw [S_impl_SkipSeek hX]
  simp only [F_impl_SkipSeek, impl_SkipSeek_e, seekR]
  rw [c_implSkipOk hX (by omega) s hs hk, bindD_some]
  dsimp only
  by_cases h : okP s
  · rw [decide_eq_true h, Bool.not_true, br_f, if_pos h]
    obtain ⟨o', i1, i2, i3⟩ := c_ahead hX (n := n) (by omega) s h key
    have e0 : List.getD o' 0 0 = bef s key 0 := i2 0 (by omega)
    have ec := c_after hX (n := n) (by omega) s (bef s key 0) 0 (by rw [h.1]; omega) (onLane_of (bef_on h key (by omega)))
    rw [show ((0 : Nat) : Int) = 0 from rfl] at ec
    rw [i3, bindD_some]
    dsimp only
    have e4 : (decide ((0 : Nat) ≤ 0) && decide ((0 : Int) < (o'.length : Int))) = true := by rw [i1]; rfl
    rw [e4, br_t, e0, ec, bindD_some]
    dsimp only
    by_cases hn : nxt s (bef s key 0) 0 = -1
    · rw [br_pos hn, if_pos hn]
    · have hm := (nxt_in h key).resolve_left hn
      have hr := (L_inc s 0).rng _ hm
      rw [br_neg hn, ixn hr.1 hr.2, br_t, if_neg hn]; rfl
  · rw [decide_eq_false h, Bool.not_false, br_t, if_neg h]
theorem c_specSkipSeek {X : Ext} (hX : XOk X) {n : Nat} (hn : W + 3 ≤ n) (s : Skip) (hs : s.2.1.length ≤ 1048576) (hk : ∀ x ∈ s.2.1, x.1.size ≤ maxLen) (key : ByteArray) : C_spec_SkipSeek (DD X n) s key = some ((seekR s key), ()) := by
  obtain ⟨n, rfl⟩ : ∃ k, n = k + 1 := ⟨n - 1, by omega⟩
  have hW := W_def
  rw [S_spec_SkipSeek hX]
  simp only [F_spec_SkipSeek, spec_SkipSeek_e, spec_SkipSeek_LP0, seekR]
  rw [c_specSkipOk hX (by omega) s hs hk, bindD_some]
  dsimp only
  by_cases h : okP s
  · rw [decide_eq_true h, Bool.not_true, br_f, if_pos h]
    have e1 := seeks_L hX n (by omega) (fun v0_0 v0_1 v0_2 => spec_SkipSeek_x0_0 (DD X n) n v0_0 v0_1 v0_2) s h key 4 0 n (by omega) (by omega)
    refine Eq.trans e1 ?_
    simp only [spec_SkipSeek_x0_0]
    have ec := c_l20Next hX (n := n) (by omega) s (bef s key 0) 0 (by rw [h.1]; omega) (onLane_of (bef_on h key (by omega)))
    rw [show ((0 : Nat) : Int) = 0 from rfl] at ec
    rw [show (stp s key 4).1 = bef s key 0 from rfl, ec, bindD_some]
    dsimp only
    by_cases hn : nxt s (bef s key 0) 0 = -1
    · rw [hn, br_pos (by omega), if_pos rfl]
    · have hm := (nxt_in h key).resolve_left hn
      have hr := (L_inc s 0).rng _ hm
      rw [br_neg (by omega), ixn hr.1 hr.2, br_t, if_neg hn]; rfl
  · rw [decide_eq_false h, Bool.not_false, br_t, if_neg h]
end Go.G

namespace Go.G
open Go Go.V
open Classical
theorem c_cloneInts {X : Ext} (hX : XOk X) {n : Nat} (hn : 1 ≤ n) (a : List Int) (ha : a.length ≤ bound) : C_slices_Clone_int_int (DD X n) a = some ((a, ()), ()) := by
  obtain ⟨n, rfl⟩ : ∃ k, n = k + 1 := ⟨n - 1, by omega⟩
  rw [S_slices_Clone_int_int hX]
  simp only [F_slices_Clone_int_int, slices_Clone_int_int_e]
  cases a with
  | nil => simp [br_ite, both, bound_def]
  | cons x l =>
    simp only [List.length_cons] at ha
    simp [br_ite, nilK, V.br, ha, show ¬ (l.length + 1 = 0) by omega]
abbrev OS := Option ((Skip × Unit) × Unit)
theorem copy_L {X : Ext} (hX : XOk X) (N n : Nat) (hN : 1 ≤ N) (K : Skip → Skip → OS) (l : List Lane) (hl : l.length ≤ 1048576) (hs : ∀ x ∈ l, x.2.1.length ≤ bound) (z : Skip) : ∀ (m i : Nat) (o : Skip), i ≤ l.length → l.length - i < m → o.2.1.length ≤ i →
    impl_copySkip_L0 (DD X N) n K m l l.length i z o = K z (o.1, o.2.1 ++ l.drop i, o.2.2)
  | 0, _, _, _, h, _ => by omega
  | m + 1, i, o, hi, hf, ho => by
    simp only [impl_copySkip_L0, impl_copySkip_b0]
    have hb := bound_def
    by_cases h : i < l.length
    · rw [br_pos (by exact_mod_cast h), ix h, br_t, Int.toNat_natCast, getD_lt h, c_cloneInts hX hN _ (hs _ (List.getElem_mem h)), bindD_some, br_pos (by omega), wrap_succ (by omega)]
      have e := copy_L hX N n hN K l hl hs z m (i + 1) (o.1, o.2.1 ++ [l[i]], o.2.2) (by omega) (by omega) (by simp; omega)
      refine Eq.trans e ?_
      rw [drop_cons h]; simp
    · rw [br_neg (by exact_mod_cast h), drop_end h]; simp
theorem c_copySkip {X : Ext} (hX : XOk X) {n : Nat} (hn : W + 2 ≤ n) (s : Skip) (hs : Small 1048576 s) : C_impl_copySkip (DD X n) s = some ((s, ()), ()) := by
  obtain ⟨n, rfl⟩ : ∃ k, n = k + 1 := ⟨n - 1, by omega⟩
  have hW := W_def
  have hb := bound_def
  obtain ⟨h1, h2, h3⟩ := hs
  rw [S_impl_copySkip hX]
  simp only [F_impl_copySkip, impl_copySkip_e, impl_copySkip_LP0]
  rw [c_cloneInts hX (by omega) _ (by omega), bindD_some]
  have := copy_L hX n n (by omega) (fun v w => impl_copySkip_x0_0 (DD X n) n v w) s.2.1 h2 (fun x hx => by have := h3 x hx; omega) ([], [], ()) n 0 (s.1, [], ()) (by omega) (by omega) (by simp)
  rw [show ((0 : Nat) : Int) = 0 from rfl] at this
  refine Eq.trans this ?_
  simp [impl_copySkip_x0_0]
theorem copy2_L (D : Den ctx) (n : Nat) (K : Skip → Skip → OS) (s : Skip) (hl : s.2.1.length ≤ 1048576) (hs : ∀ x ∈ s.2.1, x.2.1.length ≤ bound) (z : Skip) : ∀ (m i : Nat) (o : Skip), i ≤ s.2.1.length → s.2.1.length - i < m → o.2.1.length ≤ i →
    spec_l20Copy_L0 D n K m i s z o = K z (o.1, o.2.1 ++ s.2.1.drop i, o.2.2)
  | 0, _, _, _, h, _ => by omega
  | m + 1, i, o, hi, hf, ho => by
    simp only [spec_l20Copy_L0, spec_l20Copy_b0]
    have hb := bound_def
    by_cases h : i < s.2.1.length
    · have hx := hs _ (List.getElem_mem h)
      rw [br_pos (by exact_mod_cast h), ix h, br_t, br_t, Int.toNat_natCast, getD_lt h, br_pos (by omega), br_pos (by omega), wrap_succ (by omega)]
      have e := copy2_L D n K s hl hs z m (i + 1) (o.1, o.2.1 ++ [s.2.1[i]], o.2.2) (by omega) (by omega) (by simp; omega)
      refine Eq.trans e ?_
      rw [drop_cons h]; simp
    · rw [br_neg (by exact_mod_cast h), drop_end h]; simp
theorem c_l20Copy {X : Ext} (hX : XOk X) {n : Nat} (hn : W + 2 ≤ n) (s : Skip) (hs : Small 1048576 s) : C_spec_l20Copy (DD X n) s = some ((s, ()), ()) := by
  obtain ⟨n, rfl⟩ : ∃ k, n = k + 1 := ⟨n - 1, by omega⟩
  have hW := W_def
  have hb := bound_def
  obtain ⟨h1, h2, h3⟩ := hs
  rw [S_spec_l20Copy hX]
  simp only [F_spec_l20Copy, spec_l20Copy_e, spec_l20Copy_LP0]
  rw [br_pos (by omega), List.nil_append]
  have := copy2_L (DD X n) n (fun v w => spec_l20Copy_x0_0 (DD X n) n v w) s h2 (fun x hx => by have := h3 x hx; omega) ([], [], ()) n 0 (s.1, [], ()) (by omega) (by omega) (by simp)
  rw [show ((0 : Nat) : Int) = 0 from rfl] at this
  refine Eq.trans this ?_
  simp [spec_l20Copy_x0_0]
noncomputable def hasIn (s : Skip) (key : ByteArray) : List Int → Int
  | [] => -1
  | x :: l => if (nodeAt s x).1 = key then x else hasIn s key l
noncomputable def pickK (K0 : Int → Option ((Int × Unit) × Unit)) (K1 : Option ((Int × Unit) × Unit)) (x : Int) : Option ((Int × Unit) × Unit) := if x = -1 then K1 else K0 x
theorem has_L (D : Den ctx) (n : Nat) (K0 : Int → Option ((Int × Unit) × Unit)) (K1 : Option ((Int × Unit) × Unit)) (s : Skip) (key : ByteArray) (l : List Int) (hr : ∀ x ∈ l, 0 ≤ x ∧ x < s.2.1.length) (hl : l.length ≤ 1048576) : ∀ (m i : Nat), i ≤ l.length → l.length - i < m →
    spec_l20Has_L0 D n K0 K1 m key i s l = pickK K0 K1 (hasIn s key (l.drop i))
  | 0, _, _, h => by omega
  | m + 1, i, hi, hf => by
    simp only [spec_l20Has_L0, spec_l20Has_b0]
    by_cases h : i < l.length
    · have hp := hr _ (List.getElem_mem h)
      rw [br_pos (by exact_mod_cast h), ix h, br_t, Int.toNat_natCast, getD_lt h, ixn hp.1 hp.2, br_t, br_t, beq_bytes, drop_cons h]
      rw [show List.getD s.2.1 (Int.toNat l[i]) (ByteArray.empty, [], ()) = nodeAt s l[i] from rfl]
      simp only [hasIn]
      by_cases e : (nodeAt s l[i]).1 = key
      · rw [br_pos e, if_pos e]; unfold pickK; rw [if_neg (by omega)]
      · rw [br_neg e, if_neg e, wrap_succ (by omega)]
        exact has_L D n K0 K1 s key l hr hl m (i + 1) (by omega) (by omega)
    · rw [br_neg (by exact_mod_cast h), drop_end h]; rfl
theorem c_l20Has {X : Ext} (hX : XOk X) {n : Nat} (hn : W + 2 ≤ n) (s : Skip) (hs : s.2.1.length ≤ 1048576) (h0 : 0 < s.1.length) (key : ByteArray) : C_spec_l20Has (DD X n) s key = some ((hasIn s key (L s 0), ()), ()) := by
  obtain ⟨n, rfl⟩ : ∃ k, n = k + 1 := ⟨n - 1, by omega⟩
  have hW := W_def
  have hl := (L_inc s 0).len
  rw [S_spec_l20Has hX]
  simp only [F_spec_l20Has, spec_l20Has_e, spec_l20Has_LP0]
  have e := c_l20Lane hX (n := n) (by omega) s hs 0 h0
  rw [show ((0 : Nat) : Int) = 0 from rfl] at e
  rw [e, bindD_some]
  have := has_L (DD X n) n (fun v => spec_l20Has_x0_0 (DD X n) n v) (spec_l20Has_x0_1 (DD X n) n) s key (L s 0) (L_inc s 0).rng (by omega) n 0 (by omega) (by omega)
  rw [show ((0 : Nat) : Int) = 0 from rfl, List.drop_zero] at this
  refine Eq.trans this ?_
  unfold pickK
  by_cases hh : hasIn s key (L s 0) = -1
  · rw [if_pos hh, hh]; rfl
  · rw [if_neg hh]; rfl
noncomputable def lastLess (s : Skip) (key : ByteArray) : Int → List Int → Int
  | a, [] => a
  | a, x :: l => if klt (nodeAt s x).1 key then lastLess s key x l else lastLess s key a l
theorem before_L (D : Den ctx) (n : Nat) (K0 : Int → Option ((Int × Unit) × Unit)) (s : Skip) (key : ByteArray) (l : List Int) (hr : ∀ x ∈ l, 0 ≤ x ∧ x < s.2.1.length) (hl : l.length ≤ 1048576) : ∀ (m i : Nat) (a : Int), i ≤ l.length → l.length - i < m →
    spec_l20Before_L0 D n K0 m key a i s l = K0 (lastLess s key a (l.drop i))
  | 0, _, _, _, h => by omega
  | m + 1, i, a, hi, hf => by
    simp only [spec_l20Before_L0, spec_l20Before_b0]
    by_cases h : i < l.length
    · have hp := hr _ (List.getElem_mem h)
      rw [br_pos (by exact_mod_cast h), ix h, br_t, Int.toNat_natCast, getD_lt h, ixn hp.1 hp.2, br_t, br_t, drop_cons h, wrap_succ (by omega)]
      rw [show List.getD s.2.1 (Int.toNat l[i]) (ByteArray.empty, [], ()) = nodeAt s l[i] from rfl]
      simp only [lastLess]
      by_cases e : klt (nodeAt s l[i]).1 key
      · rw [bl_true e, br_t, if_pos e]
        exact before_L D n K0 s key l hr hl m (i + 1) _ (by omega) (by omega)
      · rw [bl_false e, br_f, if_neg e]
        exact before_L D n K0 s key l hr hl m (i + 1) _ (by omega) (by omega)
    · rw [br_neg (by exact_mod_cast h), drop_end h]; rfl
theorem c_l20Before {X : Ext} (hX : XOk X) {n : Nat} (hn : W + 2 ≤ n) (s : Skip) (hs : s.2.1.length ≤ 1048576) (j : Nat) (hj : j < s.1.length) (key : ByteArray) : C_spec_l20Before (DD X n) s j key = some ((lastLess s key (-1) (L s j), ()), ()) := by
  obtain ⟨n, rfl⟩ : ∃ k, n = k + 1 := ⟨n - 1, by omega⟩
  have hW := W_def
  have hl := (L_inc s j).len
  rw [S_spec_l20Before hX]
  simp only [F_spec_l20Before, spec_l20Before_e, spec_l20Before_LP0]
  rw [c_l20Lane hX (n := n) (by omega) s hs j hj, bindD_some]
  have := before_L (DD X n) n (fun v => spec_l20Before_x0_0 (DD X n) n v) s key (L s j) (L_inc s j).rng (by omega) n 0 (-1) (by omega) (by omega)
  rw [show ((0 : Nat) : Int) = 0 from rfl, List.drop_zero] at this
  exact this
def lnk (a : Skip) (p : Int) (j : Nat) (to : Int) : Skip :=
  if p = -1 then (a.1.set j to, a.2.1, ()) else (a.1, a.2.1.set p.toNat ((nodeAt a p).1, (nodeAt a p).2.1.set j to, ()), ())
theorem c_link {X : Ext} (hX : XOk X) {n : Nat} (hn : 1 ≤ n) (a : Skip) (p : Int) (j : Nat) (to : Int) (hj : j < a.1.length) (hp : onLane a p j) : C_impl_Skip_link (DD X n) a p j to = some ((), (lnk a p j to, ())) := by
  obtain ⟨n, rfl⟩ : ∃ k, n = k + 1 := ⟨n - 1, by omega⟩
  rw [S_impl_Skip_link hX]
  simp only [F_impl_Skip_link, impl_Skip_link_e, lnk]
  by_cases h : p = -1
  · rw [br_pos h, if_pos h, ix hj, br_t, Int.toNat_natCast]
  · obtain ⟨h1, h2, h3⟩ := hp.resolve_left h
    have e : (decide (0 ≤ (j : Int)) && decide ((j : Int) < ((List.getD a.2.1 (Int.toNat p) (ByteArray.empty, [], ())).2.1.length : Int))) = true := ix h3
    rw [br_neg h, if_neg h, ixn h1 h2, br_t, e, br_t, Int.toNat_natCast]; rfl
theorem c_l20Set {X : Ext} (hX : XOk X) {n : Nat} (hn : 1 ≤ n) (a : Skip) (p : Int) (j : Nat) (to : Int) (hj : j < a.1.length) (hp : onLane a p j) : C_spec_l20Set (DD X n) a p j to = some ((), (lnk a p j to, ())) := by
  obtain ⟨n, rfl⟩ : ∃ k, n = k + 1 := ⟨n - 1, by omega⟩
  rw [S_spec_l20Set hX]
  simp only [F_spec_l20Set, spec_l20Set_e, lnk]
  by_cases h : p = -1
  · rw [br_pos (by omega), if_pos h, ix hj, br_t, Int.toNat_natCast]
  · obtain ⟨h1, h2, h3⟩ := hp.resolve_left h
    have e : (decide (0 ≤ (j : Int)) && decide ((j : Int) < ((List.getD a.2.1 (Int.toNat p) (ByteArray.empty, [], ())).2.1.length : Int))) = true := ix h3
    rw [br_neg (by omega), if_neg h, ixn h1 h2, br_t, e, br_t, Int.toNat_natCast]; rfl
end Go.G

namespace Go.G
open Go Go.V
open Classical
theorem walk_last {s : Skip} {key : ByteArray} : ∀ (l : List Int) (a : Int) (c : Nat), l.Pairwise (fun x y => klt (nodeAt s x).1 (nodeAt s y).1) → (walk s key a c l).1 = lastLess s key a l
  | [], a, c, _ => rfl
  | x :: l, a, c, h => by
    obtain ⟨h1, h2⟩ := List.pairwise_cons.1 h
    simp only [walk, lastLess]
    by_cases e : klt (nodeAt s x).1 key
    · rw [if_pos e, if_pos e]; exact walk_last l x (c + 1) h2
    · rw [if_neg e, if_neg e]
      have : ∀ (r : List Int), (∀ y ∈ r, ¬ klt (nodeAt s y).1 key) → lastLess s key a r = a := by
        intro r
        induction r with
        | nil => intro _; rfl
        | cons y r ih => intro hr; simp only [lastLess]; rw [if_neg (hr y (List.mem_cons_self ..))]; exact ih fun z hz => hr z (List.mem_cons_of_mem _ hz)
      exact (this l fun y hy k => e (klt_trans (h1 y hy) k)).symm
theorem last_none {s : Skip} {key : ByteArray} {a : Int} : ∀ (r : List Int), (∀ y ∈ r, ¬ klt (nodeAt s y).1 key) → lastLess s key a r = a
  | [], _ => rfl
  | y :: r, hr => by simp only [lastLess]; rw [if_neg (hr y (List.mem_cons_self ..))]; exact last_none r fun z hz => hr z (List.mem_cons_of_mem _ hz)
theorem last_aft {s : Skip} {key : ByteArray} {a : Int} (ha : klt (nodeAt s a).1 key) : ∀ (l : List Int) (b : Int), l.Pairwise (fun x y => klt (nodeAt s x).1 (nodeAt s y).1) → a ∈ l → lastLess s key b l = lastLess s key a (aft l a)
  | [], _, _, h => by simp at h
  | x :: l, b, h, hm => by
    obtain ⟨h1, h2⟩ := List.pairwise_cons.1 h
    simp only [lastLess, aft]
    by_cases e : x = a
    · subst e; rw [if_pos ha, if_pos rfl]
    · have hml : a ∈ l := (List.mem_cons.1 hm).resolve_left fun k => e k.symm
      rw [if_neg e, if_pos (klt_trans (h1 a hml) ha)]
      exact last_aft ha l x h2 hml
theorem last_mem {s : Skip} {key : ByteArray} : ∀ (l : List Int) (a : Int), lastLess s key a l = a ∨ (lastLess s key a l ∈ l ∧ klt (nodeAt s (lastLess s key a l)).1 key)
  | [], a => .inl rfl
  | x :: l, a => by
    simp only [lastLess]
    by_cases e : klt (nodeAt s x).1 key
    · rw [if_pos e]
      rcases last_mem l x with h | ⟨h, k⟩
      · right; rw [h]; exact ⟨List.mem_cons_self .., e⟩
      · right; exact ⟨List.mem_cons_of_mem _ h, k⟩
    · rw [if_neg e]
      rcases last_mem l a with h | ⟨h, k⟩
      · exact .inl h
      · right; exact ⟨List.mem_cons_of_mem _ h, k⟩
theorem aft_pw {R : Int → Int → Prop} : ∀ {l : List Int} {a : Int}, l.Pairwise R → (aft l a).Pairwise R
  | [], _, h => h
  | x :: l, a, h => by
    obtain ⟨h1, h2⟩ := List.pairwise_cons.1 h
    simp only [aft]
    split
    · exact h2
    · exact aft_pw h2
theorem stp_less {s : Skip} (h : okP s) (key : ByteArray) : ∀ d, d ≤ 4 → (stp s key d).1 = -1 ∨ klt (nodeAt s (stp s key d).1).1 key
  | 0, _ => .inl rfl
  | d + 1, hd => by
    have hp := (L_inc s (3 - d)).pw
    simp only [stp]
    rw [walk_last _ _ _ (by unfold rest; split; exact hp; exact aft_pw hp)]
    rcases last_mem (s := s) (key := key) (rest (L s (3 - d)) (stp s key d).1) (stp s key d).1 with e | ⟨_, e⟩
    · rw [e]; exact stp_less h key d (by omega)
    · exact .inr e
theorem bef_last {s : Skip} (h : okP s) (key : ByteArray) {j : Nat} (hj : j < 4) : bef s key j = lastLess s key (-1) (L s j) := by
  have hp := (L_inc s j).pw
  unfold bef
  obtain ⟨d, hd⟩ : ∃ d, 4 - j = d + 1 := ⟨3 - j, by omega⟩
  have hjd : 3 - d = j := by omega
  rw [hd]
  simp only [stp]
  rw [hjd, walk_last _ _ _ (by unfold rest; split; exact hp; exact aft_pw hp)]
  have hin := stp_at h key (d := d) (by omega)
  have hl := stp_less h key d (by omega)
  rw [hjd] at hin
  unfold rest
  by_cases e : (stp s key d).1 = -1
  · rw [if_pos e, e]
  · rw [if_neg e]
    exact (last_aft (hl.resolve_left e) _ _ hp (hin.resolve_left e)).symm
noncomputable def ins (s : Skip) (key : ByteArray) (n : Int) : List Int → List Int
  | [] => [n]
  | x :: l => if klt (nodeAt s x).1 key then x :: ins s key n l else n :: x :: l
theorem ins_mem {s : Skip} {key : ByteArray} {n : Int} : ∀ {l : List Int} {y : Int}, y ∈ ins s key n l ↔ y = n ∨ y ∈ l
  | [], y => by simp [ins]
  | x :: l, y => by
    simp only [ins]
    split
    · rw [List.mem_cons, ins_mem, List.mem_cons]
      constructor
      · rintro (h | h | h)
        · exact .inr (.inl h)
        · exact .inl h
        · exact .inr (.inr h)
      · rintro (h | h | h)
        · exact .inr (.inl h)
        · exact .inl h
        · exact .inr (.inr h)
    · simp
theorem ins_len {s : Skip} {key : ByteArray} {n : Int} : ∀ (l : List Int), (ins s key n l).length = l.length + 1
  | [] => rfl
  | x :: l => by
    simp only [ins]
    split
    · simp [ins_len l]
    · simp
theorem path_same {s t : Skip} {j : Nat} : ∀ {l : List Int} {p : Int}, path s j p l → (∀ y ∈ l, (nodeAt t y).2.1.getD j 0 = (nodeAt s y).2.1.getD j 0) → path t j p l
  | [], _, h, _ => h
  | x :: l, p, h, hs => by
    obtain ⟨h1, h2, h3⟩ := h
    refine ⟨h1, h2, ?_⟩
    rw [hs x (List.mem_cons_self ..)]
    exact path_same h3 fun y hy => hs y (List.mem_cons_of_mem _ hy)
structure Put (s : Skip) (key : ByteArray) (t : Skip) : Prop where
  heads : t.1.length = 4
  len : t.2.1.length = s.2.1.length + 1
  keys : ∀ p : Int, 0 ≤ p → p < s.2.1.length → (nodeAt t p).1 = (nodeAt s p).1 ∧ (nodeAt t p).2.1.length = (nodeAt s p).2.1.length
  nkey : (nodeAt t s.2.1.length).1 = key
  nlen : (nodeAt t s.2.1.length).2.1.length = height key
  nx : ∀ (j : Nat) (p : Int), j < 4 → onLane s p j → nxt t p j = if j < height key ∧ p = bef s key j then (s.2.1.length : Int) else nxt s p j
  nn : ∀ j : Nat, j < height key → nxt t s.2.1.length j = nxt s (bef s key j) j
theorem path_ins {s t : Skip} {key : ByteArray} (h : Put s key t) {j : Nat} (hj : j < 4) (hh : j < height key) : ∀ (l : List Int) (a : Int), path s j (nxt s a j) l → onLane s a j → (∀ x ∈ l, onLane s x j ∧ x ≠ a ∧ x ≠ -1) → l.Pairwise (fun x y => klt (nodeAt s x).1 (nodeAt s y).1) → l.Nodup → bef s key j = lastLess s key a l →
    path t j (nxt t a j) (ins s key s.2.1.length l)
  | [], a, hp, ha, _, _, _, hb => by
    have hb' : bef s key j = a := hb
    have e1 := h.nx j a hj ha
    rw [if_pos ⟨hh, hb'.symm⟩] at e1
    have e2 := h.nn j hh
    rw [hb'] at e2
    have e3 : nxt s a j = -1 := hp
    have e4 : nxt t (s.2.1.length : Int) j = (nodeAt t s.2.1.length).2.1.getD j 0 := by unfold nxt; rw [if_neg (by omega)]
    simp only [ins]
    exact ⟨e1, by omega, by rw [← e4, e2, e3]; rfl⟩
  | x :: l, a, hp, ha, hl, hw, hn, hb => by
    obtain ⟨p1, p2, p3⟩ := hp
    obtain ⟨w1, w2⟩ := List.pairwise_cons.1 hw
    obtain ⟨n1, n2⟩ := List.nodup_cons.1 hn
    obtain ⟨x1, x2, x3⟩ := hl x (List.mem_cons_self ..)
    have ex : ∀ u : Skip, nxt u x j = (nodeAt u x).2.1.getD j 0 := fun u => by unfold nxt; rw [if_neg x3]
    simp only [ins]
    simp only [lastLess] at hb
    by_cases e : klt (nodeAt s x).1 key
    · rw [if_pos e]
      rw [if_pos e] at hb
      have hba : ¬ a = bef s key j := by
        rw [hb]
        intro k
        rcases last_mem (s := s) (key := key) l x with m | ⟨m, _⟩
        · rw [m] at k; exact x2 k.symm
        · exact (hl _ (List.mem_cons_of_mem _ m)).2.1 k.symm
      have e1 := h.nx j a hj ha
      rw [if_neg (fun k => hba k.2)] at e1
      refine ⟨e1.trans p1, p2, ?_⟩
      have := path_ins h hj hh l x (by rw [ex]; exact p3) x1 (fun y hy => ⟨(hl y (List.mem_cons_of_mem _ hy)).1, fun k => n1 (k ▸ hy), (hl y (List.mem_cons_of_mem _ hy)).2.2⟩) w2 n2 hb
      rwa [ex] at this
    · rw [if_neg e]
      rw [if_neg e, last_none l (fun y hy k => e (klt_trans (w1 y hy) k))] at hb
      have e1 := h.nx j a hj ha
      rw [if_pos ⟨hh, hb.symm⟩] at e1
      have e2 := h.nn j hh
      rw [hb, p1] at e2
      have e4 : nxt t (s.2.1.length : Int) j = (nodeAt t s.2.1.length).2.1.getD j 0 := by unfold nxt; rw [if_neg (by omega)]
      refine ⟨e1, by omega, ?_⟩
      rw [← e4, e2]
      refine path_same (s := s) (⟨rfl, p2, p3⟩ : path s j x (x :: l)) fun y hy => ?_
      obtain ⟨y1, y2, y3⟩ := hl y hy
      have e5 := h.nx j y hj y1
      rw [if_neg (fun k => y2 (k.2.trans hb))] at e5
      have ey : ∀ u : Skip, nxt u y j = (nodeAt u y).2.1.getD j 0 := fun u => by unfold nxt; rw [if_neg y3]
      rw [ey, ey] at e5
      exact e5
theorem chain_of_path {t : Skip} {j : Nat} : ∀ (l : List Int) (f : Nat) (p : Int) (out : List Int), l.length < f → path t j p l → (∀ x ∈ l, 0 ≤ x ∧ x < t.2.1.length ∧ j < (nodeAt t x).2.1.length) → (out ++ l).Pairwise (fun x y => klt (nodeAt t x).1 (nodeAt t y).1) →
    chain t j f p out = some (out ++ l)
  | _, 0, _, _, h, _, _, _ => by omega
  | [], f + 1, p, out, _, hp, _, _ => by
    have hp' : p = -1 := hp
    simp only [chain]
    rw [if_pos hp', List.append_nil]
  | x :: l, f + 1, p, out, hf, hp, hl, hw => by
    obtain ⟨p1, p2, p3⟩ := hp
    subst p1
    obtain ⟨x1, x2, x3⟩ := hl p (List.mem_cons_self ..)
    have hnb : ¬ bad t j p out := not_bad.2 ⟨⟨x1, x2⟩, x3, fun ho => (List.pairwise_append.1 hw).2.2 _ (lst_mem ho) _ (List.mem_cons_self ..)⟩
    simp only [chain]
    rw [if_neg (by omega), if_neg hnb, chain_of_path l f _ (out ++ [p]) (by simp only [List.length_cons] at hf; omega) p3 (fun y hy => hl y (List.mem_cons_of_mem _ hy)) (by simpa using hw)]
    simp
theorem ins_pw {s t : Skip} {key : ByteArray} (h : Put s key t) (hs : ∀ x : Int, 0 ≤ x → x < s.2.1.length → ¬ (nodeAt s x).1 = key ∨ True) : ∀ (l : List Int), (∀ x ∈ l, (0 ≤ x ∧ x < s.2.1.length) ∧ (nodeAt s x).1 ≠ key) → l.Pairwise (fun x y => klt (nodeAt s x).1 (nodeAt s y).1) →
    (ins s key s.2.1.length l).Pairwise (fun x y => klt (nodeAt t x).1 (nodeAt t y).1)
  | [], _, _ => by simp [ins]
  | x :: l, hl, hw => by
    obtain ⟨w1, w2⟩ := List.pairwise_cons.1 hw
    have hk : ∀ y ∈ x :: l, (nodeAt t y).1 = (nodeAt s y).1 := fun y hy => (h.keys y (hl y hy).1.1 (hl y hy).1.2).1
    simp only [ins]
    by_cases e : klt (nodeAt s x).1 key
    · rw [if_pos e, List.pairwise_cons]
      refine ⟨fun y hy => ?_, ins_pw h hs l (fun y hy => hl y (List.mem_cons_of_mem _ hy)) w2⟩
      rw [hk x (List.mem_cons_self ..)]
      rcases ins_mem.1 hy with rfl | hy
      · rw [h.nkey]; exact e
      · rw [hk y (List.mem_cons_of_mem _ hy)]; exact w1 y hy
    · rw [if_neg e, List.pairwise_cons]
      have hx : klt key (nodeAt s x).1 := by
        rcases klt_total (nodeAt s x).1 key with k | k | k
        · exact absurd k e
        · exact absurd k (hl x (List.mem_cons_self ..)).2
        · exact k
      refine ⟨fun y hy => ?_, ?_⟩
      · rw [h.nkey, hk y hy]
        rcases List.mem_cons.1 hy with rfl | hy
        · exact hx
        · exact klt_trans hx (w1 y hy)
      · refine List.Pairwise.imp_of_mem ?_ hw
        intro a b ha hb k
        rw [hk a ha, hk b hb]; exact k
theorem lane_some {s : Skip} {j : Nat} {l : List Int} (h : lane s j = some l) : L s j = l := by unfold L; rw [h]; rfl
theorem put_lane {s t : Skip} {key : ByteArray} (hs : okP s) (h : Put s key t) (hnew : ∀ x ∈ L s 0, (nodeAt s x).1 ≠ key) {j : Nat} (hj : j < 4) :
    lane t j = some (if j < height key then ins s key s.2.1.length (L s j) else L s j) := by
  have hi := L_inc s j
  have hsome := hs.2.2.1 j hj
  have hp := L_path hsome
  have hlj : ∀ x ∈ L s j, onLane s x j ∧ x ≠ -1 := fun x hx => ⟨.inr ⟨(hi.rng x hx).1, (hi.rng x hx).2, L_high s j x hx⟩, by have := (hi.rng x hx).1; omega⟩
  have hk0 : ∀ x ∈ L s j, (nodeAt s x).1 ≠ key := fun x hx => hnew x (ok_down hs (Nat.zero_le _) hj hx)
  have hnh : nxt t (-1) j = t.1.getD j 0 := rfl
  have hold : ∀ x ∈ L s j, 0 ≤ x ∧ x < t.2.1.length ∧ j < (nodeAt t x).2.1.length := fun x hx => by
    have h1 := hi.rng x hx
    have h2 := h.keys x h1.1 h1.2
    have h3 := L_high s j x hx
    exact ⟨h1.1, by rw [h.len]; omega, by omega⟩
  unfold lane
  by_cases hh : j < height key
  · rw [if_pos hh]
    have hpath := path_ins h hj hh (L s j) (-1) (by have e : nxt s (-1) j = s.1.getD j 0 := rfl; rw [e]; exact hp) (.inl rfl) (fun x hx => ⟨(hlj x hx).1, (hlj x hx).2, (hlj x hx).2⟩) hi.pw hi.nodup (bef_last hs key hj)
    rw [hnh] at hpath
    have := chain_of_path (ins s key s.2.1.length (L s j)) (t.2.1.length + 1) _ [] (by rw [ins_len, h.len]; have := hi.len; omega) hpath (fun x hx => by
      rcases ins_mem.1 hx with rfl | hx
      · exact ⟨by omega, by rw [h.len]; omega, by rw [h.nlen]; exact hh⟩
      · exact hold x hx) (by rw [List.nil_append]; exact ins_pw h (fun _ _ _ => .inr trivial) _ (fun x hx => ⟨hi.rng x hx, hk0 x hx⟩) hi.pw)
    simpa using this
  · rw [if_neg hh]
    have e0 := h.nx j (-1) hj (.inl rfl)
    rw [if_neg (fun k => hh k.1), hnh] at e0
    have hpath : path t j (t.1.getD j 0) (L s j) := by
      rw [e0]
      refine path_same (s := s) hp fun y hy => ?_
      obtain ⟨y1, y3⟩ := hlj y hy
      have e5 := h.nx j y hj y1
      rw [if_neg (fun k => hh k.1)] at e5
      have ey : ∀ u : Skip, nxt u y j = (nodeAt u y).2.1.getD j 0 := fun u => by unfold nxt; rw [if_neg y3]
      rw [ey, ey] at e5
      exact e5
    have := chain_of_path (L s j) (t.2.1.length + 1) _ [] (by rw [h.len]; have := hi.len; omega) hpath hold (by
      rw [List.nil_append]
      refine List.Pairwise.imp_of_mem ?_ hi.pw
      intro a b ha hb k
      rw [(h.keys a (hi.rng a ha).1 (hi.rng a ha).2).1, (h.keys b (hi.rng b hb).1 (hi.rng b hb).2).1]; exact k)
    simpa using this
theorem put_ok {s t : Skip} {key : ByteArray} (hs : okP s) (h : Put s key t) (hnew : ∀ x ∈ L s 0, (nodeAt s x).1 ≠ key) : okP t ↔ s.2.1.length + 1 ≤ 40 := by
  constructor
  · intro ht; have := ht.2.1; rw [h.len] at this; exact this
  · intro h40
    rw [ok_iff]
    have hL : ∀ j, j < 4 → L t j = if j < height key then ins s key s.2.1.length (L s j) else L s j := fun j hj => lane_some (put_lane hs h hnew hj)
    have hr := height_range key
    have hL0 : L t 0 = ins s key s.2.1.length (L s 0) := by rw [hL 0 (by omega), if_pos (by omega)]
    have hold := (ok_iff s).1 hs
    refine ⟨h.heads, by rw [h.len]; exact h40, fun i hi => ⟨by rw [put_lane hs h hnew hi]; rfl, fun x hx => ?_, fun e he => ?_⟩⟩
    · rw [hL i hi] at hx
      rw [hL0, ins_mem]
      by_cases hh : i < height key
      · rw [if_pos hh] at hx
        rcases ins_mem.1 hx with k | k
        · exact .inl k
        · exact .inr (ok_down hs (Nat.zero_le _) hi k)
      · rw [if_neg hh] at hx
        exact .inr (ok_down hs (Nat.zero_le _) hi hx)
    · unfold atOk
      rw [count_nodup (L_inc t i).nodup, hL i hi]
      rw [hL0, ins_mem] at he
      rcases he with rfl | he
      · rw [h.nkey, h.nlen]
        refine ⟨rfl, ?_⟩
        have hnot : (s.2.1.length : Int) ∉ L s i := fun k => by have := (L_inc s i).rng _ k; omega
        by_cases hh : i < height key
        · rw [if_pos hh, if_pos (ins_mem.2 (.inl rfl))]; simp [hh]
        · rw [if_neg hh, if_neg hnot]; simp [hh]
      · have hrg := (L_inc s 0).rng e he
        obtain ⟨k1, k2⟩ := h.keys e hrg.1 hrg.2
        obtain ⟨a1, a2⟩ := (hold.2.2 i hi).2.2 e he
        rw [count_nodup (L_inc s i).nodup] at a2
        rw [k1, k2]
        refine ⟨a1, ?_⟩
        rw [← a2]
        have hne : e ≠ (s.2.1.length : Int) := by omega
        by_cases hh : i < height key
        · rw [if_pos hh]
          by_cases hm : e ∈ L s i
          · rw [if_pos hm, if_pos (ins_mem.2 (.inr hm))]
          · rw [if_neg hm, if_neg (fun k => (ins_mem.1 k).elim hne hm)]
        · rw [if_neg hh]
end Go.G

namespace Go.G
open Go Go.V
open Classical
theorem lnk_heads (a : Skip) (p : Int) (j : Nat) (to : Int) : (lnk a p j to).1.length = a.1.length := by unfold lnk; split <;> simp
theorem lnk_len (a : Skip) (p : Int) (j : Nat) (to : Int) : (lnk a p j to).2.1.length = a.2.1.length := by unfold lnk; split <;> simp
theorem lnk_node {a : Skip} {p q : Int} {j : Nat} {to : Int} (hp : onLane a p j) (hq : 0 ≤ q) : nodeAt (lnk a p j to) q = if q = p then ((nodeAt a p).1, (nodeAt a p).2.1.set j to, ()) else nodeAt a q := by
  unfold lnk
  by_cases h : p = -1
  · rw [if_pos h, if_neg (by omega)]; rfl
  · obtain ⟨h1, h2, h3⟩ := hp.resolve_left h
    rw [if_neg h]
    show (a.2.1.set p.toNat _).getD q.toNat dl = _
    rw [getD_set' (by omega)]
    by_cases e : q = p
    · rw [if_pos (by omega), if_pos e]
    · rw [if_neg (by omega), if_neg e]; rfl
theorem lnk_nxt {a : Skip} {p q : Int} {i j : Nat} {to : Int} (hj : j < a.1.length) (hp : onLane a p j) (hq : q = -1 ∨ 0 ≤ q) : nxt (lnk a p j to) q i = if q = p ∧ i = j then to else nxt a q i := by
  by_cases h : q = -1
  · subst h
    by_cases h2 : p = -1
    · subst h2
      show (lnk a (-1) j to).1.getD i 0 = _
      unfold lnk
      rw [if_pos rfl]
      show (a.1.set j to).getD i 0 = _
      rw [getD_set' hj]
      by_cases e : i = j
      · rw [if_pos e, if_pos ⟨rfl, e⟩]
      · rw [if_neg e, if_neg (fun k => e k.2)]; rfl
    · rw [if_neg (fun k => h2 k.1.symm)]
      show (lnk a p j to).1.getD i 0 = a.1.getD i 0
      unfold lnk
      rw [if_neg h2]
  · have h0 : 0 ≤ q := hq.resolve_left h
    unfold nxt
    rw [if_neg h, if_neg h, lnk_node hp h0]
    by_cases e : q = p
    · subst e
      obtain ⟨h1, h2, h3⟩ := hp.resolve_left h
      rw [if_pos rfl]
      show ((nodeAt a q).2.1.set j to).getD i 0 = _
      rw [getD_set' h3]
      by_cases e : i = j
      · rw [if_pos e, if_pos ⟨rfl, e⟩]
      · rw [if_neg e, if_neg (fun k => e k.2)]
    · rw [if_neg e, if_neg (fun k => e k.1)]
theorem lnk_key {a : Skip} {p q : Int} {j : Nat} {to : Int} (hp : onLane a p j) (hq : 0 ≤ q) : (nodeAt (lnk a p j to) q).1 = (nodeAt a q).1 ∧ (nodeAt (lnk a p j to) q).2.1.length = (nodeAt a q).2.1.length := by
  rw [lnk_node hp hq]
  by_cases e : q = p
  · subst e; rw [if_pos rfl]; simp
  · rw [if_neg e]; exact ⟨rfl, rfl⟩
noncomputable def nexts (s : Skip) (key : ByteArray) : Nat → List Int
  | 0 => []
  | k + 1 => nexts s key k ++ [nxt s (bef s key k) k]
theorem nexts_len (s : Skip) (key : ByteArray) : ∀ k, (nexts s key k).length = k
  | 0 => rfl
  | k + 1 => by simp [nexts, nexts_len s key k]
theorem nexts_get (s : Skip) (key : ByteArray) : ∀ (k j : Nat), j < k → (nexts s key k).getD j 0 = nxt s (bef s key j) j
  | 0, _, h => by omega
  | k + 1, j, h => by
    simp only [nexts]
    by_cases e : j = k
    · subst e
      simp [List.getD, nexts_len]
    · have := nexts_get s key k j (by omega)
      have hl := nexts_len s key k
      rw [← this]
      simp [List.getD, List.getElem?_append_left (by omega : j < (nexts s key k).length)]
def base (s : Skip) (key : ByteArray) (v : List Int) : Skip := (s.1, s.2.1 ++ [(key, v, ())], ())
noncomputable def putK (s : Skip) (key : ByteArray) (v : List Int) : Nat → Skip
  | 0 => base s key v
  | k + 1 => lnk (putK s key v k) (bef s key k) k s.2.1.length
theorem base_node {s : Skip} {key : ByteArray} {v : List Int} {p : Int} (h0 : 0 ≤ p) : nodeAt (base s key v) p = if p = s.2.1.length then (key, v, ()) else nodeAt s p := by
  show (s.2.1 ++ [(key, v, ())]).getD p.toNat dl = _
  by_cases e : p = s.2.1.length
  · subst e
    rw [if_pos rfl, Int.toNat_natCast]; simp [List.getD]
  · rw [if_neg e]
    unfold nodeAt
    by_cases h : p.toNat < s.2.1.length
    · simp [List.getD, List.getElem?_append_left h]
    · simp [List.getD, List.getElem?_append_right (by omega : s.2.1.length ≤ p.toNat), List.getElem?_eq_none (by omega : s.2.1.length ≤ p.toNat), show ¬ (p.toNat - s.2.1.length = 0) by omega]
structure PutKOk (s : Skip) (key : ByteArray) (v : List Int) (k : Nat) (a : Skip) : Prop where
  heads : a.1.length = s.1.length
  len : a.2.1.length = s.2.1.length + 1
  keys : ∀ p : Int, 0 ≤ p → p < s.2.1.length → (nodeAt a p).1 = (nodeAt s p).1 ∧ (nodeAt a p).2.1.length = (nodeAt s p).2.1.length
  new : nodeAt a s.2.1.length = (key, v, ())
  nx : ∀ (j : Nat) (p : Int), onLane s p j → nxt a p j = if j < k ∧ p = bef s key j then (s.2.1.length : Int) else nxt s p j
theorem PutKOk.on {s : Skip} {key : ByteArray} {v : List Int} {k : Nat} {a : Skip} (h : PutKOk s key v k a) {p : Int} {j : Nat} (hp : onLane s p j) : onLane a p j :=
  hp.imp id fun ⟨h1, h2, h3⟩ => ⟨h1, by rw [h.len]; omega, by rw [(h.keys p h1 h2).2]; exact h3⟩
theorem bef_lane {s : Skip} (h : okP s) (key : ByteArray) {j : Nat} (hj : j < 4) : onLane s (bef s key j) j := onLane_of (bef_on h key hj)
theorem putK_ok {s : Skip} (hs : okP s) (key : ByteArray) (v : List Int) : ∀ k, k ≤ 4 → PutKOk s key v k (putK s key v k)
  | 0, _ => by
    refine ⟨rfl, by simp [putK, base], fun p h0 h1 => ?_, ?_, fun j p hp => ?_⟩
    · simp only [putK]; rw [base_node h0, if_neg (by omega)]; exact ⟨rfl, rfl⟩
    · simp only [putK]; rw [base_node (by omega), if_pos rfl]
    · rw [if_neg (fun k => by omega)]
      simp only [putK]
      by_cases e : p = -1
      · subst e; rfl
      · obtain ⟨h1, h2, h3⟩ := hp.resolve_left e
        unfold nxt
        rw [if_neg e, if_neg e, base_node h1, if_neg (by omega)]
  | k + 1, hk => by
    have ih := putK_ok hs key v k (by omega)
    have hb := bef_lane hs key (j := k) (by omega)
    have hb' := ih.on hb
    have hne : bef s key k ≠ (s.2.1.length : Int) := by rcases hb with h | h <;> omega
    simp only [putK]
    refine ⟨by rw [lnk_heads]; exact ih.heads, by rw [lnk_len]; exact ih.len, fun p h0 h1 => ?_, ?_, fun j p hp => ?_⟩
    · obtain ⟨k1, k2⟩ := lnk_key (to := (s.2.1.length : Int)) hb' h0
      rw [k1, k2]; exact ih.keys p h0 h1
    · rw [lnk_node hb' (by omega), if_neg (fun k => hne k.symm)]; exact ih.new
    · rw [lnk_nxt (by rw [ih.heads, hs.1]; omega) hb' (by rcases hp with h | h; exact .inl h; exact .inr h.1), ih.nx j p hp]
      by_cases e : j = k
      · subst e
        by_cases e2 : p = bef s key j
        · rw [if_pos ⟨e2, rfl⟩, if_pos ⟨by omega, e2⟩]
        · rw [if_neg (fun h => e2 h.1), if_neg (fun h => e2 h.2), if_neg (fun h => e2 h.2)]
      · rw [if_neg (fun h => e h.2)]
        by_cases e2 : j < k ∧ p = bef s key j
        · rw [if_pos e2, if_pos ⟨by omega, e2.2⟩]
        · rw [if_neg e2, if_neg (fun h => e2 ⟨by omega, h.2⟩)]
noncomputable def put (s : Skip) (key : ByteArray) : Skip := putK s key (nexts s key (height key)) (height key)
theorem put_is {s : Skip} (hs : okP s) (key : ByteArray) : Put s key (put s key) := by
  have hr := height_range key
  have h := putK_ok hs key (nexts s key (height key)) (height key) hr.2
  refine ⟨by rw [show put s key = putK s key (nexts s key (height key)) (height key) from rfl, h.heads, hs.1], h.len, h.keys, by rw [show put s key = putK s key (nexts s key (height key)) (height key) from rfl, h.new], by rw [show put s key = putK s key (nexts s key (height key)) (height key) from rfl, h.new]; exact nexts_len .., fun j p hj hp => h.nx j p hp, fun j hj => ?_⟩
  unfold nxt
  rw [if_neg (by omega), show put s key = putK s key (nexts s key (height key)) (height key) from rfl, h.new]
  show (nexts s key (height key)).getD j 0 = _
  rw [nexts_get s key _ j hj]
  rfl
theorem implNexts_L {X : Ext} (hX : XOk X) (N n : Nat) (hN : 1 ≤ N) (K0 : ByteArray → Int → Skip → Skip → List Int → Lane → Option ((Skip × Bool × Unit) × Unit)) (s z : Skip) (hs : okP s) (key : ByteArray) (h : Nat) (hh : h ≤ 4) (b : List Int) (hb : b.length = 4) (hbef : ∀ i, i < 4 → b.getD i 0 = bef s key i) (q : Int) :
    ∀ (d j m : Nat), j + d = h → d < m → impl_SkipPut_L0 (DD X N) n K0 m key q h j s z b (key, nexts s key j, ()) = K0 key q s z b (key, nexts s key h, ())
  | _, _, 0, _, h => by omega
  | 0, j, m + 1, hj, _ => by
    simp only [impl_SkipPut_L0, impl_SkipPut_b0]
    rw [br_neg (by omega)]
    obtain rfl : j = h := by omega
    rfl
  | d + 1, j, m + 1, hj, hm => by
    simp only [impl_SkipPut_L0, impl_SkipPut_b0]
    have hbd := bound_def
    have hl := nexts_len s key j
    rw [br_pos (by omega), ix (by omega), br_t, Int.toNat_natCast, hbef j (by omega)]
    rw [show (s.1, s.2.1, ()) = s from rfl, c_after hX hN s _ j (by rw [hs.1]; omega) (bef_lane hs key (by omega)), bindD_some, br_pos (by omega), wrap_succ (by omega)]
    exact implNexts_L hX N n hN K0 s z hs key h hh b hb hbef q d (j + 1) m (by omega) (by omega)
theorem implLinks_L {X : Ext} (hX : XOk X) (N n : Nat) (hN : 1 ≤ N) (K0 : Skip → Skip → Option ((Skip × Bool × Unit) × Unit)) (s z : Skip) (hs : okP s) (key : ByteArray) (v : List Int) (h : Nat) (hh : h ≤ 4) (b : List Int) (hb : b.length = 4) (hbef : ∀ i, i < 4 → b.getD i 0 = bef s key i) :
    ∀ (d j m : Nat), j + d = h → d < m → impl_SkipPut_L1 (DD X N) n K0 m s.2.1.length h j (putK s key v j) z b = K0 (putK s key v h) z
  | _, _, 0, _, h => by omega
  | 0, j, m + 1, hj, _ => by
    simp only [impl_SkipPut_L1, impl_SkipPut_b1]
    rw [br_neg (by omega)]
    obtain rfl : j = h := by omega
    rfl
  | d + 1, j, m + 1, hj, hm => by
    simp only [impl_SkipPut_L1, impl_SkipPut_b1]
    have ho := putK_ok hs key v j (by omega)
    rw [br_pos (by omega), ix (by omega), br_t, Int.toNat_natCast, hbef j (by omega), c_link hX hN _ _ j _ (by rw [ho.heads, hs.1]; omega) (ho.on (bef_lane hs key (by omega))), bindD_some, wrap_succ (by omega)]
    exact implLinks_L hX N n hN K0 s z hs key v h hh b hb hbef d (j + 1) m (by omega) (by omega)
def has (s : Skip) (key : ByteArray) : Prop := ∃ x ∈ L s 0, (nodeAt s x).1 = key
noncomputable def firstGe (s : Skip) (key : ByteArray) : List Int → Int
  | [] => -1
  | x :: l => if klt (nodeAt s x).1 key then firstGe s key l else x
theorem nxt_first {s : Skip} {key : ByteArray} : ∀ (l : List Int) (a : Int), path s 0 (nxt s a 0) l → (∀ x ∈ l, x ≠ -1) → l.Pairwise (fun x y => klt (nodeAt s x).1 (nodeAt s y).1) → nxt s (lastLess s key a l) 0 = firstGe s key l
  | [], a, h, _, _ => h
  | x :: l, a, h, hl, hw => by
    obtain ⟨h1, h2, h3⟩ := h
    obtain ⟨w1, w2⟩ := List.pairwise_cons.1 hw
    simp only [lastLess, firstGe]
    by_cases e : klt (nodeAt s x).1 key
    · rw [if_pos e, if_pos e]
      have ex : nxt s x 0 = (nodeAt s x).2.1.getD 0 0 := by unfold nxt; rw [if_neg (hl x (List.mem_cons_self ..))]
      exact nxt_first l x (by rw [ex]; exact h3) (fun y hy => hl y (List.mem_cons_of_mem _ hy)) w2
    · rw [if_neg e, if_neg e, last_none l (fun y hy k => e (klt_trans (w1 y hy) k)), h1]
theorem first_has {s : Skip} {key : ByteArray} : ∀ (l : List Int), l.Pairwise (fun x y => klt (nodeAt s x).1 (nodeAt s y).1) → (∀ x ∈ l, 0 ≤ x) → ((∃ x ∈ l, (nodeAt s x).1 = key) ↔ firstGe s key l ≠ -1 ∧ (nodeAt s (firstGe s key l)).1 = key)
  | [], _, _ => by simp [firstGe]
  | x :: l, hw, hl => by
    obtain ⟨w1, w2⟩ := List.pairwise_cons.1 hw
    have h0 := hl x (List.mem_cons_self ..)
    simp only [firstGe]
    by_cases e : klt (nodeAt s x).1 key
    · rw [if_pos e, ← first_has l w2 (fun y hy => hl y (List.mem_cons_of_mem _ hy))]
      constructor
      · rintro ⟨y, hy, k⟩
        rcases List.mem_cons.1 hy with rfl | hy
        · rw [k] at e; exact absurd e (klt_irrefl _)
        · exact ⟨y, hy, k⟩
      · rintro ⟨y, hy, k⟩; exact ⟨y, List.mem_cons_of_mem _ hy, k⟩
    · rw [if_neg e]
      constructor
      · rintro ⟨y, hy, k⟩
        rcases List.mem_cons.1 hy with rfl | hy
        · exact ⟨by omega, k⟩
        · exact absurd (k ▸ w1 y hy) e
      · rintro ⟨_, k⟩; exact ⟨x, List.mem_cons_self .., k⟩
theorem has_nxt {s : Skip} (hs : okP s) (key : ByteArray) : has s key ↔ nxt s (bef s key 0) 0 ≠ -1 ∧ (nodeAt s (nxt s (bef s key 0) 0)).1 = key := by
  have hi := L_inc s 0
  have hp := L_path (hs.2.2.1 0 (by omega))
  have e : nxt s (-1) 0 = s.1.getD 0 0 := rfl
  rw [bef_last hs key (by omega), nxt_first (L s 0) (-1) (by rw [e]; exact hp) (fun x hx => by have := (hi.rng x hx).1; omega) hi.pw]
  exact first_has _ hi.pw (fun x hx => (hi.rng x hx).1)
theorem has_in {s : Skip} {key : ByteArray} : ∀ (l : List Int), (∀ x ∈ l, 0 ≤ x) → ((∃ x ∈ l, (nodeAt s x).1 = key) ↔ hasIn s key l ≥ 0)
  | [], _ => by simp [hasIn]
  | x :: l, hl => by
    have h0 := hl x (List.mem_cons_self ..)
    simp only [hasIn]
    by_cases e : (nodeAt s x).1 = key
    · rw [if_pos e]; exact ⟨fun _ => h0, fun _ => ⟨x, List.mem_cons_self .., e⟩⟩
    · rw [if_neg e, ← has_in l (fun y hy => hl y (List.mem_cons_of_mem _ hy))]
      constructor
      · rintro ⟨y, hy, k⟩
        rcases List.mem_cons.1 hy with rfl | hy
        · exact absurd k e
        · exact ⟨y, hy, k⟩
      · rintro ⟨y, hy, k⟩; exact ⟨y, List.mem_cons_of_mem _ hy, k⟩
noncomputable def putR (s : Skip) (key : ByteArray) : Skip × Bool × Unit :=
  if okP s ∧ key.size ≤ 40 ∧ s.2.1.length < 40 ∧ ¬ has s key then (put s key, true, ()) else (s, false, ())
theorem c_implSkipPut {X : Ext} (hX : XOk X) {n : Nat} (hn : W + 3 ≤ n) (s : Skip) (hs : Small 1048576 s) (hk : ∀ x ∈ s.2.1, x.1.size ≤ maxLen) (key : ByteArray) (hkey : key.size ≤ maxLen) : C_impl_SkipPut (DD X n) s key = some ((putR s key), ()) := by
  obtain ⟨n, rfl⟩ : ∃ k, n = k + 1 := ⟨n - 1, by omega⟩
  have hW := W_def
  have hbd := bound_def
  have hs1 := hs.2.1
  rw [S_impl_SkipPut hX]
  simp only [F_impl_SkipPut, impl_SkipPut_e, impl_SkipPut_LP0]
  rw [c_copySkip hX (by omega) s hs, bindD_some]
  dsimp only
  rw [show (s.1, s.2.1, ()) = s from rfl, c_implSkipOk hX (by omega) s hs1 hk, bindD_some]
  dsimp only
  unfold putR
  by_cases h : okP s
  · rw [decide_eq_true h, Bool.not_true, cond_false]
    by_cases hk40 : key.size ≤ 40
    · rw [decide_eq_false (by omega : ¬ ((key.size : Int) > 40)), cond_false]
      by_cases hl40 : s.2.1.length = 40
      · rw [br_pos (by omega), if_neg (fun k => by omega)]
      · have h40 := h.2.1
        rw [br_neg (by omega)]
        obtain ⟨b, i1, i2, i3⟩ := c_ahead hX (n := n) (by omega) s h key
        have e0 : List.getD b 0 0 = bef s key 0 := i2 0 (by omega)
        have ec := c_after hX (n := n) (by omega) s (bef s key 0) 0 (by rw [h.1]; omega) (onLane_of (bef_on h key (by omega)))
        rw [show ((0 : Nat) : Int) = 0 from rfl] at ec
        rw [i3, bindD_some]
        dsimp only
        have e4 : (decide ((0 : Nat) ≤ 0) && decide ((0 : Int) < (b.length : Int))) = true := by rw [i1]; rfl
        rw [e4, br_t, e0, ec, bindD_some]
        dsimp only
        have hr := height_range key
        have tail : (bindD (C_impl_HeightOf (DD X n) key) fun b_4 => impl_SkipPut_L0 (DD X n) n (fun v0_0 v0_1 v0_2 v0_3 v0_4 v0_5 => impl_SkipPut_x0_0 (DD X n) n (impl_SkipPut_LP1 (DD X n) n) v0_0 v0_1 v0_2 v0_3 v0_4 v0_5) n key (s.2.1.length : Int) b_4.1.1 0 s ([], [], ()) b (key, [], ())) = some ((put s key, true, ()), ()) := by
          rw [c_implHeight hX (by omega) key hkey, bindD_some]
          dsimp only
          have := implNexts_L hX n n (by omega) (fun v0_0 v0_1 v0_2 v0_3 v0_4 v0_5 => impl_SkipPut_x0_0 (DD X n) n (impl_SkipPut_LP1 (DD X n) n) v0_0 v0_1 v0_2 v0_3 v0_4 v0_5) s ([], [], ()) h key (height key) hr.2 b i1 i2 (s.2.1.length : Int) (height key) 0 n (by omega) (by omega)
          rw [show ((0 : Nat) : Int) = 0 from rfl] at this
          refine Eq.trans this ?_
          simp only [impl_SkipPut_x0_0]
          rw [br_pos (by omega), c_implHeight hX (by omega) key hkey, bindD_some]
          simp only [impl_SkipPut_LP1]
          have := implLinks_L hX n n (by omega) (fun v0_0 v0_1 => impl_SkipPut_x1_0 (DD X n) n v0_0 v0_1) s ([], [], ()) h key (nexts s key (height key)) (height key) hr.2 b i1 i2 (height key) 0 n (by omega) (by omega)
          rw [show ((0 : Nat) : Int) = 0 from rfl] at this
          refine Eq.trans this ?_
          rfl
        have hh := has_nxt h key
        by_cases hn1 : nxt s (bef s key 0) 0 = -1
        · have e5 : (nxt s (bef s key 0) 0 != -1) = false := by rw [hn1]; rfl
          rw [e5, br_f, if_pos ⟨h, hk40, by omega, fun k => (hh.1 k).1 hn1⟩]
          exact tail
        · have e5 : (nxt s (bef s key 0) 0 != -1) = true := by rw [bne_iff_ne]; exact hn1
          have hm := (nxt_in h key).resolve_left hn1
          have hrg := (L_inc s 0).rng _ hm
          rw [e5, br_t, ixn hrg.1 hrg.2, br_t, beq_bytes, show List.getD s.2.1 (Int.toNat (nxt s (bef s key 0) 0)) (ByteArray.empty, [], ()) = nodeAt s (nxt s (bef s key 0) 0) from rfl]
          by_cases hke : (nodeAt s (nxt s (bef s key 0) 0)).1 = key
          · rw [br_pos hke, if_neg (fun k => k.2.2.2 (hh.2 ⟨hn1, hke⟩))]
          · rw [br_neg hke, if_pos ⟨h, hk40, by omega, fun k => hke (hh.1 k).2⟩]
            exact tail
    · rw [decide_eq_true (by omega : (key.size : Int) > 40), cond_true, br_t, if_neg (fun k => hk40 k.2.1)]
  · rw [decide_eq_false h, Bool.not_false, cond_true, cond_true, br_t, if_neg (fun k => h k.1)]
theorem lnk_comm {a : Skip} {p q : Int} {i j : Nat} {x y : Int} (hp : onLane a p i) (hq : onLane a q j) (h0 : 0 ≤ q) (hne : p ≠ q) : lnk (lnk a p i x) q j y = lnk (lnk a q j y) p i x := by
  obtain ⟨q1, q2, q3⟩ := hq.resolve_left (by omega)
  have e1 : nodeAt (lnk a p i x) q = nodeAt a q := by rw [lnk_node hp h0, if_neg (fun k => hne k.symm)]
  by_cases h : p = -1
  · subst h
    have neg : ∀ b : Skip, lnk b (-1) i x = (b.1.set i x, b.2.1, ()) := fun b => by unfold lnk; rw [if_pos rfl]
    have pos : ∀ b : Skip, lnk b q j y = (b.1, b.2.1.set q.toNat ((nodeAt b q).1, (nodeAt b q).2.1.set j y, ()), ()) := fun b => by unfold lnk; rw [if_neg (by omega)]
    rw [pos (lnk a (-1) i x), e1, neg, neg, pos]
  · obtain ⟨p1, p2, p3⟩ := hp.resolve_left h
    have e2 : nodeAt (lnk a q j y) p = nodeAt a p := by rw [lnk_node hq p1, if_neg hne]
    have f1 : lnk (lnk a p i x) q j y = ((lnk a p i x).1, (lnk a p i x).2.1.set q.toNat ((nodeAt a q).1, (nodeAt a q).2.1.set j y, ()), ()) := by
      conv => lhs; unfold lnk
      rw [if_neg (by omega)]
      show ((lnk a p i x).1, (lnk a p i x).2.1.set q.toNat ((nodeAt (lnk a p i x) q).1, (nodeAt (lnk a p i x) q).2.1.set j y, ()), ()) = _
      rw [e1]
    have f2 : lnk (lnk a q j y) p i x = ((lnk a q j y).1, (lnk a q j y).2.1.set p.toNat ((nodeAt a p).1, (nodeAt a p).2.1.set i x, ()), ()) := by
      conv => lhs; unfold lnk
      rw [if_neg h]
      show ((lnk a q j y).1, (lnk a q j y).2.1.set p.toNat ((nodeAt (lnk a q j y) p).1, (nodeAt (lnk a q j y) p).2.1.set i x, ()), ()) = _
      rw [e2]
    have g1 : lnk a p i x = (a.1, a.2.1.set p.toNat ((nodeAt a p).1, (nodeAt a p).2.1.set i x, ()), ()) := by unfold lnk; rw [if_neg h]
    have g2 : lnk a q j y = (a.1, a.2.1.set q.toNat ((nodeAt a q).1, (nodeAt a q).2.1.set j y, ()), ()) := by unfold lnk; rw [if_neg (by omega)]
    rw [f1, f2, g1, g2]
    show (a.1, (a.2.1.set p.toNat _).set q.toNat _, ()) = (a.1, (a.2.1.set q.toNat _).set p.toNat _, ())
    rw [List.set_comm]
    omega
theorem putK_set {s : Skip} (hs : okP s) (key : ByteArray) (v : List Int) {j : Nat} (hj : j < v.length) (x : Int) : ∀ k, k ≤ 4 → lnk (putK s key v k) s.2.1.length j x = putK s key (v.set j x) k
  | 0, _ => by
    simp only [putK]
    unfold lnk
    rw [if_neg (by omega), base_node (by omega), if_pos rfl]
    show (s.1, (s.2.1 ++ [(key, v, ())]).set _ (key, v.set j x, ()), ()) = _
    rw [Int.toNat_natCast]
    simp [base, List.set_append_right]
  | k + 1, hk => by
    have ho := putK_ok hs key v k (by omega)
    have hb := bef_lane hs key (j := k) (by omega)
    have hne : bef s key k ≠ (s.2.1.length : Int) := by rcases hb with h | h <;> omega
    simp only [putK]
    rw [lnk_comm (ho.on hb) (.inr ⟨by omega, by rw [ho.len]; omega, by rw [ho.new]; exact hj⟩) (by omega) hne, putK_set hs key v hj x k (by omega)]
noncomputable def vk (s : Skip) (key : ByteArray) (h k : Nat) : List Int := nexts s key k ++ List.replicate (h - k) 0
theorem vk_len (s : Skip) (key : ByteArray) {h k : Nat} (hk : k ≤ h) : (vk s key h k).length = h := by
  unfold vk; rw [List.length_append, nexts_len, List.length_replicate]; omega
theorem vk_succ (s : Skip) (key : ByteArray) {h k : Nat} (hk : k < h) : (vk s key h k).set k (nxt s (bef s key k) k) = vk s key h (k + 1) := by
  unfold vk
  rw [show h - k = (h - (k + 1)) + 1 by omega, List.replicate_succ, List.set_append_right _ _ (by rw [nexts_len]; omega), nexts_len, Nat.sub_self]
  simp [nexts]
abbrev OSB := Option ((Skip × Bool × Unit) × Unit)
theorem specPut_L {X : Ext} (hX : XOk X) (n : Nat) (hn : W + 2 ≤ n) (K0 : Skip → Skip → Skip → OSB) (s z1 : Skip) (hs : okP s) (hsl : s.2.1.length ≤ 1048576) (key : ByteArray) (hkey : key.size ≤ maxLen) : ∀ (d j m : Nat), j + d = height key → d < m →
    spec_SkipPut_L0 (DD X n) n K0 m key s.2.1.length j s z1 s (putK s key (vk s key (height key) j) j) = K0 z1 s (put s key)
  | _, _, 0, _, h => by omega
  | 0, j, m + 1, hj, _ => by
    simp only [spec_SkipPut_L0, spec_SkipPut_b0]
    rw [c_specHeight hX (by omega) key hkey, bindD_some]
    dsimp only
    rw [br_neg (by omega)]
    have e : j = height key := by omega
    subst e
    unfold put vk
    simp
  | d + 1, j, m + 1, hj, hm => by
    have hr := height_range key
    have hb := bef_lane hs key (j := j) (by omega)
    have ho := putK_ok hs key (vk s key (height key) j) j (by omega)
    have ho2 := putK_ok hs key (vk s key (height key) (j + 1)) j (by omega)
    have hvl := vk_len s key (h := height key) (k := j) (by omega)
    have enx : nxt (putK s key (vk s key (height key) j) j) (bef s key j) j = nxt s (bef s key j) j := by
      rw [ho.nx j _ hb, if_neg (fun k => by omega)]
    simp only [spec_SkipPut_L0, spec_SkipPut_b0]
    rw [c_specHeight hX (by omega) key hkey, bindD_some]
    dsimp only
    rw [br_pos (by omega), c_l20Before hX (by omega) s hsl j (by rw [hs.1]; omega) key, bindD_some]
    dsimp only
    rw [← bef_last hs key (j := j) (by omega)]
    rw [show ((putK s key (vk s key (height key) j) j).1, (putK s key (vk s key (height key) j) j).2.1, ()) = putK s key (vk s key (height key) j) j from rfl]
    rw [c_l20Next hX (by omega) _ _ j (by rw [ho.heads, hs.1]; omega) (ho.on hb), bindD_some]
    dsimp only
    rw [enx, c_l20Set hX (by omega) _ _ j _ (by rw [ho.heads, hs.1]; omega) (.inr ⟨by omega, by rw [ho.len]; omega, by rw [ho.new]; show j < (vk s key (height key) j).length; omega⟩), bindD_some]
    dsimp only
    rw [putK_set hs key _ (by omega) _ j (by omega), vk_succ s key (by omega)]
    rw [show ((putK s key (vk s key (height key) (j + 1)) j).1, (putK s key (vk s key (height key) (j + 1)) j).2.1, ()) = putK s key (vk s key (height key) (j + 1)) j from rfl]
    rw [c_l20Set hX (by omega) _ _ j _ (by rw [ho2.heads, hs.1]; omega) (ho2.on hb), bindD_some, wrap_succ (by omega)]
    exact specPut_L hX n hn K0 s z1 hs hsl key hkey d (j + 1) m (by omega) (by omega)
end Go.G

namespace Go.G
open Go Go.V
open Classical
theorem putK_small {s : Skip} (hs : okP s) {b : Nat} (hb : 40 < b) (hsm : Small b s) (key : ByteArray) (v : List Int) (hv : v.length ≤ b) : ∀ k, k ≤ 4 → Small b (putK s key v k) := by
  intro k hk
  have h := putK_ok hs key v k hk
  have h40 := hs.2.1
  refine ⟨by rw [h.heads]; exact hsm.1, by rw [h.len]; omega, fun x hx => ?_⟩
  obtain ⟨i, hi, rfl⟩ := List.mem_iff_getElem.1 hx
  have e : (putK s key v k).2.1[i] = nodeAt (putK s key v k) (i : Int) := by
    unfold nodeAt; rw [Int.toNat_natCast, getD_lt hi]
  rw [h.len] at hi
  rw [e]
  by_cases h1 : i < s.2.1.length
  · rw [(h.keys i (by omega) (by omega)).2]
    have : nodeAt s (i : Int) ∈ s.2.1 := by unfold nodeAt; rw [Int.toNat_natCast, getD_lt h1]; exact List.getElem_mem _
    exact hsm.2.2 _ this
  · have e2 : i = s.2.1.length := by omega
    subst e2
    rw [h.new]; exact hv
theorem putK_keys {s : Skip} (hs : okP s) (key : ByteArray) (v : List Int) {b : Nat} (hk : ∀ x ∈ s.2.1, x.1.size ≤ b) (hkey : key.size ≤ b) : ∀ k, k ≤ 4 → ∀ x ∈ (putK s key v k).2.1, x.1.size ≤ b := by
  intro k hk4 x hx
  have h := putK_ok hs key v k hk4
  obtain ⟨i, hi, rfl⟩ := List.mem_iff_getElem.1 hx
  have e : (putK s key v k).2.1[i] = nodeAt (putK s key v k) (i : Int) := by
    unfold nodeAt; rw [Int.toNat_natCast, getD_lt hi]
  rw [h.len] at hi
  rw [e]
  by_cases h1 : i < s.2.1.length
  · rw [(h.keys i (by omega) (by omega)).1]
    have : nodeAt s (i : Int) ∈ s.2.1 := by unfold nodeAt; rw [Int.toNat_natCast, getD_lt h1]; exact List.getElem_mem _
    exact hk _ this
  · have e2 : i = s.2.1.length := by omega
    subst e2
    rw [h.new]; exact hkey
theorem put_small {s : Skip} (hs : okP s) {b : Nat} (hb : 40 < b) (hsm : Small b s) (key : ByteArray) : Small b (put s key) := by
  have hr := height_range key
  exact putK_small hs hb hsm key _ (by rw [nexts_len]; omega) _ hr.2
theorem put_keys {s : Skip} (hs : okP s) (key : ByteArray) {b : Nat} (hk : ∀ x ∈ s.2.1, x.1.size ≤ b) (hkey : key.size ≤ b) : ∀ x ∈ (put s key).2.1, x.1.size ≤ b :=
  putK_keys hs key _ hk hkey _ (height_range key).2
theorem putR_small {s : Skip} {b : Nat} (hb : 40 < b) (hsm : Small b s) (key : ByteArray) : Small b (putR s key).1 := by
  unfold putR
  split
  · rename_i h; exact put_small h.1 hb hsm key
  · exact hsm
theorem c_specSkipPut {X : Ext} (hX : XOk X) {n : Nat} (hn : W + 3 ≤ n) (s : Skip) (hs : Small 1048576 s) (hk : ∀ x ∈ s.2.1, x.1.size ≤ maxLen) (key : ByteArray) (hkey : key.size ≤ maxLen) : C_spec_SkipPut (DD X n) s key = some ((putR s key), ()) := by
  obtain ⟨n, rfl⟩ : ∃ k, n = k + 1 := ⟨n - 1, by omega⟩
  have hW := W_def
  have hbd := bound_def
  have hs1 := hs.2.1
  rw [S_spec_SkipPut hX]
  simp only [F_spec_SkipPut, spec_SkipPut_e, spec_SkipPut_LP0]
  rw [c_l20Copy hX (by omega) s hs, bindD_some, c_specSkipOk hX (by omega) s hs1 hk, bindD_some]
  dsimp only
  rw [show (s.1, s.2.1, ()) = s from rfl]
  unfold putR
  by_cases h : okP s
  · rw [decide_eq_true h, Bool.not_true, br_f, c_l20Has hX (by omega) s hs1 (by rw [h.1]; omega) key, bindD_some]
    dsimp only
    have hh := has_in (s := s) (key := key) (L s 0) (fun x hx => ((L_inc s 0).rng x hx).1)
    by_cases hhas : has s key
    · rw [decide_eq_true (hh.1 hhas), cond_true, br_t, if_neg (fun k => k.2.2.2 hhas)]
    · rw [decide_eq_false (fun k => hhas (hh.2 k)), cond_false]
      by_cases hk40 : key.size ≤ 40
      · rw [br_neg (by omega), bindD_some, c_specHeight hX (by omega) key hkey, bindD_some]
        dsimp only
        have hr := height_range key
        have h40 := h.2.1
        rw [to_cond (by omega), br_t, br_pos (by omega), Int.toNat_natCast]
        have e0 := specPut_L hX n (by omega) (fun v0_0 v0_1 v0_2 => spec_SkipPut_x0_0 (DD X n) n v0_0 v0_1 v0_2) s ([], [], ()) h hs1 key hkey (height key) 0 n (by omega) (by omega)
        rw [show ((0 : Nat) : Int) = 0 from rfl] at e0
        refine Eq.trans e0 ?_
        simp only [spec_SkipPut_x0_0]
        have hput := put_is h key
        have hok := put_ok h hput (fun x hx k => hhas ⟨x, hx, k⟩)
        have hl := hput.len
        rw [show ((put s key).1, (put s key).2.1, ()) = put s key from rfl, c_specSkipOk hX (by omega) (put s key) (by omega) (put_keys h key hk hkey), bindD_some]
        dsimp only
        by_cases h41 : s.2.1.length < 40
        · rw [decide_eq_true (hok.2 (by omega)), Bool.not_true, br_f, if_pos ⟨h, hk40, h41, hhas⟩]
        · rw [decide_eq_false (fun k => by have := hok.1 k; omega), Bool.not_false, br_t, if_neg (fun k => h41 k.2.2.1)]
      · rw [br_pos (by omega), if_neg (fun k => hk40 k.2.1)]
  · rw [decide_eq_false h, Bool.not_false, br_t, if_neg (fun k => h k.1)]
end Go.G

namespace Go.G
open Go Go.V
abbrev Cur := List Int × Int × Int × Unit
def CurOk (c : Cur) : Prop := c.1.length ≤ 1048576 ∧ 0 ≤ c.2.1 ∧ c.2.1 ≤ c.1.length
theorem and_255 (x : BitVec (IntKind.bits IntKind.i64)) : 0 ≤ IntKind.wrap IntKind.i64 ((BitVec.toNat (BitVec.and x (BitVec.ofInt (IntKind.bits IntKind.i64) 255)) : Nat) : Int) ∧ IntKind.wrap IntKind.i64 ((BitVec.toNat (BitVec.and x (BitVec.ofInt (IntKind.bits IntKind.i64) 255)) : Nat) : Int) ≤ 255 := by
  have h : BitVec.toNat (BitVec.and x (BitVec.ofInt (IntKind.bits IntKind.i64) 255)) ≤ 255 := by
    show BitVec.toNat (x &&& BitVec.ofInt (IntKind.bits IntKind.i64) 255) ≤ 255
    rw [BitVec.toNat_and]
    exact Nat.le_trans Nat.and_le_right (by decide)
  rw [wrap_id (by omega) (by omega)]
  omega
theorem c_l1Byte {X : Ext} (hX : XOk X) {n : Nat} (hn : 1 ≤ n) {c : Cur} (hc : CurOk c) : ∃ (x : Int) (c' : Cur), 0 ≤ x ∧ x ≤ 255 ∧ CurOk c' ∧ C_spec_l1Byte (DD X n) c = some ((x, ()), (c', ())) := by
  obtain ⟨n, rfl⟩ : ∃ k, n = k + 1 := ⟨n - 1, by omega⟩
  obtain ⟨h1, h2, h3⟩ := hc
  rw [S_spec_l1Byte hX]
  simp only [F_spec_l1Byte, spec_l1Byte_e]
  by_cases h : c.2.1 < (c.1.length : Int)
  · rw [br_pos h, ixn h2 h, br_t, wrap_id (x := c.2.1 + 1) (by omega) (by omega)]
    refine ⟨_, (c.1, c.2.1 + 1, _, ()), (and_255 _).1, (and_255 _).2, ⟨h1, ?_, ?_⟩, rfl⟩
    · show 0 ≤ c.2.1 + 1; omega
    · show c.2.1 + 1 ≤ (c.1.length : Int); omega
  · rw [br_neg h]
    have k : ∀ h u, CurOk (c.1, c.2.1, h, u) := fun _ _ => ⟨h1, h2, h3⟩
    exact ⟨_, _, (and_255 _).1, (and_255 _).2, k _ _, rfl⟩
theorem c_l1Below {X : Ext} (hX : XOk X) {n : Nat} (hn : 2 ≤ n) {c : Cur} (hc : CurOk c) (k : Int) : ∃ (x : Int) (c' : Cur), (0 < k → 0 ≤ x ∧ x < k) ∧ (k ≤ 0 → x = 0) ∧ CurOk c' ∧ C_spec_l1Below (DD X n) c k = some ((x, ()), (c', ())) := by
  obtain ⟨n, rfl⟩ : ∃ k, n = k + 1 := ⟨n - 1, by omega⟩
  rw [S_spec_l1Below hX]
  simp only [F_spec_l1Below, spec_l1Below_e]
  by_cases h : k ≤ 0
  · rw [br_pos h]
    exact ⟨0, c, fun h2 => by omega, fun _ => rfl, hc, rfl⟩
  · rw [br_neg h]
    by_cases h2 : k ≤ 256
    · obtain ⟨x, c', x0, x1, hc', e⟩ := c_l1Byte hX (n := n) (by omega) hc
      rw [br_pos h2, e, bindD_some]
      dsimp only
      rw [br_neg (by omega)]
      refine ⟨_, _, fun _ => ?_, fun h3 => by omega, hc', rfl⟩
      rw [Int.tmod_eq_emod_of_nonneg x0]
      exact ⟨Int.emod_nonneg _ (by omega), Int.emod_lt_of_pos _ (by omega)⟩
    · obtain ⟨x, c1, x0, x1, hc1, e1⟩ := c_l1Byte hX (n := n) (by omega) hc
      obtain ⟨y, c2, y0, y1, hc2, e2⟩ := c_l1Byte hX (n := n) (by omega) hc1
      obtain ⟨z, c3, z0, z1, hc3, e3⟩ := c_l1Byte hX (n := n) (by omega) hc2
      obtain ⟨w, c4, w0, w1, hc4, e4⟩ := c_l1Byte hX (n := n) (by omega) hc3
      rw [br_neg h2, e1, bindD_some]
      dsimp only
      rw [e2, bindD_some]
      dsimp only
      rw [e3, bindD_some]
      dsimp only
      rw [e4, bindD_some]
      dsimp only
      rw [br_neg (by omega), wrap_id (x := x * 16777216) (by omega) (by omega), wrap_id (x := y * 65536) (by omega) (by omega), wrap_id (x := x * 16777216 + y * 65536) (by omega) (by omega),
        wrap_id (x := z * 256) (by omega) (by omega), wrap_id (x := x * 16777216 + y * 65536 + z * 256) (by omega) (by omega), wrap_id (x := x * 16777216 + y * 65536 + z * 256 + w) (by omega) (by omega)]
      refine ⟨_, _, fun _ => ?_, fun h3 => by omega, hc4, rfl⟩
      rw [Int.tmod_eq_emod_of_nonneg (by omega)]
      exact ⟨Int.emod_nonneg _ (by omega), Int.emod_lt_of_pos _ (by omega)⟩
theorem c_l1Once {X : Ext} (hX : XOk X) {n : Nat} (hn : 3 ≤ n) {c : Cur} (hc : CurOk c) (k : Int) : ∃ (b : Bool) (c' : Cur), CurOk c' ∧ C_spec_l1Once (DD X n) c k = some ((b, ()), (c', ())) := by
  obtain ⟨n, rfl⟩ : ∃ k, n = k + 1 := ⟨n - 1, by omega⟩
  rw [S_spec_l1Once hX]
  simp only [F_spec_l1Once, spec_l1Once_e]
  obtain ⟨x, c', _, _, hc', e⟩ := c_l1Below hX (n := n) (by omega) hc k
  rw [e, bindD_some]
  exact ⟨_, _, hc', rfl⟩
theorem c_l1Pick {X : Ext} (hX : XOk X) {n : Nat} (hn : 3 ≤ n) {c : Cur} (hc : CurOk c) (l : List ByteArray) (hl : 0 < l.length) : ∃ (x : ByteArray) (c' : Cur), x ∈ l ∧ CurOk c' ∧ C_spec_l1Pick (DD X n) c l = some ((x, ()), (c', ())) := by
  obtain ⟨n, rfl⟩ : ∃ k, n = k + 1 := ⟨n - 1, by omega⟩
  rw [S_spec_l1Pick hX]
  simp only [F_spec_l1Pick, spec_l1Pick_e]
  obtain ⟨x, c', h1, _, hc', e⟩ := c_l1Below hX (n := n) (by omega) hc (l.length : Int)
  obtain ⟨x0, x1⟩ := h1 (by omega)
  rw [e, bindD_some]
  dsimp only
  rw [ixn x0 x1, br_t, getD_lt (by omega)]
  exact ⟨_, _, List.getElem_mem _, hc', rfl⟩
theorem l1New_L (D : Den ctx) (n : Nat) {K0 : List Int → Int → Option ((Cur × Unit) × Unit)} (a : List Int) (ha : a.length ≤ 1048576) : ∀ (m i : Nat) (h : Int), i ≤ a.length → a.length - i < m → ∃ h' : Int, spec_l1New_L0 D n K0 m a h i = K0 a h'
  | 0, _, _, _, h => by omega
  | m + 1, i, h, hi, hf => by
    simp only [spec_l1New_L0, spec_l1New_b0]
    by_cases h1 : i < a.length
    · by_cases h2 : (i : Int) < 4000
      · rw [decide_eq_true (by omega : (i : Int) < (a.length : Int)), cond_true, br_pos h2, decide_eq_true (by omega : (0 : Int) ≤ (i : Int)), Bool.and_self, br_t, wrap_succ (by omega)]
        exact l1New_L D n a ha m (i + 1) _ (by omega) (by omega)
      · rw [decide_eq_true (by omega : (i : Int) < (a.length : Int)), cond_true, br_neg h2]
        exact ⟨h, rfl⟩
    · rw [decide_eq_false (by omega : ¬ (i : Int) < (a.length : Int)), cond_false, br_f]
      exact ⟨h, rfl⟩
theorem c_l1New {X : Ext} (hX : XOk X) {n : Nat} (hn : W + 1 ≤ n) (a : List Int) (ha : a.length ≤ 1048576) : ∃ c : Cur, CurOk c ∧ C_spec_l1New (DD X n) a = some ((c, ()), ()) := by
  obtain ⟨n, rfl⟩ : ∃ k, n = k + 1 := ⟨n - 1, by omega⟩
  have hW := W_def
  rw [S_spec_l1New hX]
  simp only [F_spec_l1New, spec_l1New_e, spec_l1New_LP0]
  obtain ⟨h', e⟩ := l1New_L (DD X n) n (K0 := fun v w => spec_l1New_x0_0 (DD X n) n v w) a ha n 0 (IntKind.wrap IntKind.i64 (27323 + (a.length : Int))) (by omega) (by omega)
  rw [show ((0 : Nat) : Int) = 0 from rfl] at e
  exact ⟨(a, 0, h', ()), ⟨ha, by show (0 : Int) ≤ 0; omega, by show (0 : Int) ≤ (a.length : Int); omega⟩, e⟩
theorem c_big {X : Ext} (hX : XOk X) {n : Nat} (hn : 1 ≤ n) (a : List Int) : C_laws_big (DD X n) a = some ((decide ((a.length : Int) > 1048576), ()), ()) := by
  obtain ⟨n, rfl⟩ : ∃ k, n = k + 1 := ⟨n - 1, by omega⟩
  rw [S_laws_big hX]; rfl
def drawKeys : List ByteArray :=
      (List.set
        (List.set
          (List.set
            (List.set
              (List.set
                (List.set
                  (List.set
                    (List.set
                      (List.set
                        (List.set (List.set (List.set (List.replicate 12 ByteArray.empty) 0 (ByteArray.mk #[])) 1 (ByteArray.mk #[UInt8.ofNat 97])) 2
                          (ByteArray.mk #[UInt8.ofNat 98]))
                        3 (ByteArray.mk #[UInt8.ofNat 99]))
                      4 (ByteArray.mk #[UInt8.ofNat 100]))
                    5 (ByteArray.mk #[UInt8.ofNat 101]))
                  6 (ByteArray.mk #[UInt8.ofNat 102]))
                7 (ByteArray.mk #[UInt8.ofNat 103]))
              8 (ByteArray.mk #[UInt8.ofNat 97, UInt8.ofNat 97]))
            9 (ByteArray.mk #[UInt8.ofNat 97, UInt8.ofNat 98]))
          10 (ByteArray.mk #[UInt8.ofNat 98, UInt8.ofNat 97]))
        11 (ByteArray.mk #[UInt8.ofNat 0]))
theorem drawKeys_size : ∀ x ∈ drawKeys, x.size ≤ 2 := by decide +kernel
theorem c_l20DrawKey {X : Ext} (hX : XOk X) {n : Nat} (hn : 4 ≤ n) {c : Cur} (hc : CurOk c) : ∃ (x : ByteArray) (c' : Cur), x.size ≤ 2 ∧ CurOk c' ∧ C_spec_l20DrawKey (DD X n) c = some ((x, ()), (c', ())) := by
  obtain ⟨n, rfl⟩ : ∃ k, n = k + 1 := ⟨n - 1, by omega⟩
  rw [S_spec_l20DrawKey hX]
  simp only [F_spec_l20DrawKey, spec_l20DrawKey_e]
  obtain ⟨x, c', hm, hc', e⟩ := c_l1Pick hX (n := n) (by omega) hc drawKeys (by decide)
  refine ⟨x, c', drawKeys_size x hm, hc', ?_⟩
  show bindD (C_spec_l1Pick (DD X n) c drawKeys) _ = _
  rw [e, bindD_some]
theorem c_drawHeightOf {X : Ext} (hX : XOk X) {n : Nat} (hn : W + 5 ≤ n) (a : List Int) (ha : a.length ≤ 1048576) : ∃ x : ByteArray, x.size ≤ 2 ∧ C_spec_DrawHeightOf (DD X n) a = some ((x, ()), ()) := by
  obtain ⟨n, rfl⟩ : ∃ k, n = k + 1 := ⟨n - 1, by omega⟩
  rw [S_spec_DrawHeightOf hX]
  simp only [F_spec_DrawHeightOf, spec_DrawHeightOf_e]
  obtain ⟨c, hc, e⟩ := c_l1New hX (n := n) (by omega) a ha
  obtain ⟨x, c', hx, hc', e'⟩ := c_l20DrawKey hX (n := n) (by omega) hc
  refine ⟨x, hx, ?_⟩
  rw [e, bindD_some]
  dsimp only
  rw [e', bindD_some]
end Go.G

namespace Go.G
open Go Go.V
open Classical
def newSkip : Skip := ([-1, -1, -1, -1], [], ())
theorem c_implSkipNew {X : Ext} (hX : XOk X) {n : Nat} (hn : 1 ≤ n) : C_impl_SkipNew (DD X n) = some ((newSkip, ()), ()) := by
  obtain ⟨n, rfl⟩ : ∃ k, n = k + 1 := ⟨n - 1, by omega⟩
  rw [S_impl_SkipNew hX]; rfl
theorem c_specSkipNew {X : Ext} (hX : XOk X) {n : Nat} (hn : 1 ≤ n) : C_spec_SkipNew (DD X n) = some ((newSkip, ()), ()) := by
  obtain ⟨n, rfl⟩ : ∃ k, n = k + 1 := ⟨n - 1, by omega⟩
  rw [S_spec_SkipNew hX]; rfl
theorem newSmall {b : Nat} (hb : 4 ≤ b) : Small b newSkip := ⟨hb, Nat.zero_le _, fun x hx => by simp [newSkip] at hx⟩
theorem new_lane {j : Nat} (hj : j < 4) : lane newSkip j = some [] := by
  have e : newSkip.1.getD j 0 = -1 := by
    rcases (by omega : j = 0 ∨ j = 1 ∨ j = 2 ∨ j = 3) with rfl | rfl | rfl | rfl <;> rfl
  unfold lane
  rw [e, show newSkip.2.1.length + 1 = 0 + 1 from rfl, chain, if_pos rfl]
theorem new_L {j : Nat} (hj : j < 4) : L newSkip j = [] := by unfold L; rw [new_lane hj]; rfl
theorem new_ok : okP newSkip := ⟨rfl, Nat.zero_le _, fun j hj => by rw [new_lane hj]; rfl, fun k hk => absurd hk (Nat.not_lt_zero _)⟩
theorem new_has (key : ByteArray) : ¬ has newSkip key := by
  rintro ⟨x, hx, _⟩
  rw [new_L (by omega)] at hx
  simp at hx
theorem new_put (key : ByteArray) (hk : key.size ≤ 40) : putR newSkip key = (put newSkip key, true, ()) := by
  unfold putR
  rw [if_pos ⟨new_ok, hk, by decide, new_has key⟩]
end Go.G

namespace Go.G
open Go Go.V
open Classical
structure Like (s a : Skip) : Prop where
  heads : a.1.length = s.1.length
  len : a.2.1.length = s.2.1.length
  keys : ∀ q : Int, 0 ≤ q → (nodeAt a q).1 = (nodeAt s q).1 ∧ (nodeAt a q).2.1.length = (nodeAt s q).2.1.length
theorem Like.refl (s : Skip) : Like s s := ⟨rfl, rfl, fun _ _ => ⟨rfl, rfl⟩⟩
theorem Like.on {s a : Skip} (h : Like s a) {p : Int} {j : Nat} (hp : onLane s p j) : onLane a p j :=
  hp.imp id fun ⟨h1, h2, h3⟩ => ⟨h1, by rw [h.len]; exact h2, by rw [(h.keys p h1).2]; exact h3⟩
theorem Like.lnk {s a : Skip} (h : Like s a) {p : Int} {j : Nat} (hp : onLane s p j) (to : Int) : Like s (lnk a p j to) :=
  ⟨by rw [lnk_heads, h.heads], by rw [lnk_len, h.len], fun q hq => by
    have := lnk_key (to := to) (h.on hp) hq
    rw [this.1, this.2]; exact h.keys q hq⟩
theorem Like.mem {s a : Skip} (h : Like s a) {x : Lane} (hx : x ∈ a.2.1) : ∃ y ∈ s.2.1, x.1 = y.1 ∧ x.2.1.length = y.2.1.length := by
  obtain ⟨i, hi, rfl⟩ := List.mem_iff_getElem.1 hx
  have hi2 : i < s.2.1.length := by rw [← h.len]; exact hi
  have := h.keys (i : Int) (by omega)
  unfold nodeAt at this
  rw [Int.toNat_natCast, getD_lt hi, getD_lt hi2] at this
  exact ⟨_, List.getElem_mem hi2, this.1, this.2⟩
noncomputable def delK (s : Skip) (key : ByteArray) (x : Int) : Nat → Skip
  | 0 => s
  | k + 1 => lnk (delK s key x k) (bef s key k) k (nxt s x k)
theorem delK_like {s : Skip} (hs : okP s) (key : ByteArray) (x : Int) : ∀ k, k ≤ 4 → Like s (delK s key x k)
  | 0, _ => .refl s
  | k + 1, hk => (delK_like hs key x k (by omega)).lnk (bef_lane hs key (by omega)) _
noncomputable def del (s : Skip) (key : ByteArray) : Skip :=
  let x := hasIn s key (L s 0)
  let a := delK s key x (height key)
  (a.1, a.2.1.set x.toNat ((nodeAt a x).1, [], ()), ())
theorem hasIn_mem {s : Skip} {key : ByteArray} : ∀ (l : List Int), 0 ≤ hasIn s key l → hasIn s key l ∈ l ∧ (nodeAt s (hasIn s key l)).1 = key
  | [], h => by simp [hasIn] at h
  | x :: l, h => by
    unfold hasIn at h ⊢
    split
    · rename_i e; exact ⟨List.mem_cons_self .., e⟩
    · rename_i e
      rw [if_neg e] at h
      have := hasIn_mem l h
      exact ⟨List.mem_cons_of_mem _ this.1, this.2⟩
theorem specDel_L1 {X : Ext} (hX : XOk X) (n : Nat) (hn : W + 2 ≤ n) (K0 : Int → Skip → Skip → OSB) (s z1 : Skip) (hs : okP s) (hsl : s.2.1.length ≤ 1048576) (key : ByteArray) (hkey : key.size ≤ maxLen) (x : Int) (hx0 : 0 ≤ x) (hx1 : x < s.2.1.length) (hx2 : (nodeAt s x).2.1.length = height key) : ∀ (d j m : Nat), j + d = height key → d < m →
    spec_SkipDel_L0 (DD X n) n K0 m key x j s z1 (delK s key x j) = K0 x z1 (delK s key x (height key))
  | _, _, 0, _, h => by omega
  | 0, j, m + 1, hj, _ => by
    simp only [spec_SkipDel_L0, spec_SkipDel_b0]
    rw [c_specHeight hX (by omega) key hkey, bindD_some]
    dsimp only
    rw [br_neg (by omega)]
    have e : j = height key := by omega
    subst e
    rfl
  | d + 1, j, m + 1, hj, hm => by
    have hr := height_range key
    have hb := bef_lane hs key (j := j) (by omega)
    have ho := delK_like hs key x j (by omega)
    have hi : (decide (0 ≤ x) && decide (x < (s.2.1.length : Int))) = true := ixn hx0 hx1
    have hi2 : (decide ((0 : Int) ≤ (j : Int)) && decide ((j : Int) < ((s.2.1.getD x.toNat (ByteArray.empty, [], ())).2.1.length : Int))) = true := by
      have : (s.2.1.getD x.toNat (ByteArray.empty, [], ())).2.1.length = height key := hx2
      rw [this]
      rw [decide_eq_true (by omega : (0 : Int) ≤ (j : Int)), decide_eq_true (by omega : (j : Int) < ((height key : Nat) : Int))]; rfl
    simp only [spec_SkipDel_L0, spec_SkipDel_b0]
    rw [c_specHeight hX (by omega) key hkey, bindD_some]
    dsimp only
    rw [br_pos (by omega), c_l20Before hX (by omega) s hsl j (by rw [hs.1]; omega) key, bindD_some]
    dsimp only
    rw [← bef_last hs key (j := j) (by omega), hi, br_t, hi2, br_t]
    rw [show ((delK s key x j).1, (delK s key x j).2.1, ()) = delK s key x j from rfl]
    rw [c_l20Set hX (by omega) _ _ j _ (by rw [ho.heads, hs.1]; omega) (ho.on hb), bindD_some, wrap_succ (by omega)]
    have e : (s.2.1.getD x.toNat (ByteArray.empty, [], ())).2.1.getD (j : Int).toNat 0 = nxt s x j := by
      unfold nxt
      rw [if_neg (by omega), Int.toNat_natCast]
      rfl
    rw [e]
    exact specDel_L1 hX n hn K0 s z1 hs hsl key hkey x hx0 hx1 hx2 d (j + 1) m (by omega) (by omega)
noncomputable def delR (s : Skip) (key : ByteArray) : Skip × Bool × Unit := if okP s ∧ has s key then (del s key, true, ()) else (s, false, ())
theorem has_node {s : Skip} (h : okP s) (hs1 : s.2.1.length ≤ 1048576) {key : ByteArray} (hh : has s key) : 0 ≤ hasIn s key (L s 0) ∧ hasIn s key (L s 0) < s.2.1.length ∧ (nodeAt s (hasIn s key (L s 0))).2.1.length = height key := by
  have h0 := (has_in (s := s) (key := key) (L s 0) (fun x hx => ((L_inc s 0).rng x hx).1)).1 hh
  obtain ⟨hm, he⟩ := hasIn_mem (L s 0) h0
  have hr := (L_inc s 0).rng _ hm
  refine ⟨h0, hr.2, ?_⟩
  have := (ok_iff s).1 h
  have h3 := (this.2.2 0 (by omega)).2.2 _ hm
  rw [h3.1, he]
theorem c_specSkipDel {X : Ext} (hX : XOk X) {n : Nat} (hn : W + 3 ≤ n) (s : Skip) (hs : Small 1048576 s) (hk : ∀ x ∈ s.2.1, x.1.size ≤ maxLen) (key : ByteArray) (hkey : key.size ≤ maxLen) : C_spec_SkipDel (DD X n) s key = some ((delR s key), ()) := by
  obtain ⟨n, rfl⟩ : ∃ k, n = k + 1 := ⟨n - 1, by omega⟩
  have hW := W_def
  have hs1 := hs.2.1
  rw [S_spec_SkipDel hX]
  simp only [F_spec_SkipDel, spec_SkipDel_e, spec_SkipDel_LP0]
  rw [c_specSkipOk hX (by omega) s hs1 hk, bindD_some]
  dsimp only
  unfold delR
  by_cases h : okP s
  · rw [decide_eq_true h, Bool.not_true, br_f, c_l20Has hX (by omega) s hs1 (by rw [h.1]; omega) key, bindD_some]
    dsimp only
    have hh := has_in (s := s) (key := key) (L s 0) (fun x hx => ((L_inc s 0).rng x hx).1)
    by_cases hhas : has s key
    · obtain ⟨g1, g2, g3⟩ := has_node h hs1 hhas
      have hr := height_range key
      rw [br_neg (by omega), c_l20Copy hX (by omega) s hs, bindD_some, bindD_some]
      dsimp only
      have e0 := specDel_L1 hX n (by omega) (fun v0_0 v0_1 v0_2 => spec_SkipDel_x0_0 (DD X n) n v0_0 v0_1 v0_2) s ([], [], ()) h hs1 key hkey _ g1 g2 g3 (height key) 0 n (by omega) (by omega)
      rw [show ((0 : Nat) : Int) = 0 from rfl, show delK s key (hasIn s key (L s 0)) 0 = s from rfl] at e0
      rw [show (s.1, s.2.1, ()) = s from rfl]
      refine Eq.trans e0 ?_
      simp only [spec_SkipDel_x0_0]
      have ho := delK_like h key (hasIn s key (L s 0)) (height key) (by omega)
      rw [ixn g1 (by rw [ho.len]; exact g2), br_t, if_pos ⟨h, hhas⟩]
      rfl
    · rw [br_pos (by have := mt hh.2 hhas; omega), c_l20Copy hX (by omega) s hs, bindD_some, if_neg (fun k => hhas k.2)]
  · rw [decide_eq_false h, Bool.not_false, br_t, c_l20Copy hX (by omega) s hs, bindD_some, if_neg (fun k => h k.1)]
theorem del_small {s : Skip} (h : okP s) {b : Nat} (hs : Small b s) (key : ByteArray) : Small b (del s key) := by
  have hr := height_range key
  have ho := delK_like h key (hasIn s key (L s 0)) (height key) hr.2
  refine ⟨by show (delK ..).1.length ≤ b; rw [ho.heads]; exact hs.1, by show (List.set ..).length ≤ b; rw [List.length_set, ho.len]; exact hs.2.1, fun x hx => ?_⟩
  rcases List.mem_or_eq_of_mem_set hx with hx | rfl
  · obtain ⟨y, hy, _, e⟩ := ho.mem hx
    rw [e]; exact hs.2.2 y hy
  · exact Nat.zero_le _
theorem del_keys {s : Skip} (h : okP s) (hs1 : s.2.1.length ≤ 1048576) {key : ByteArray} (hh : has s key) {b : Nat} (hk : ∀ x ∈ s.2.1, x.1.size ≤ b) : ∀ x ∈ (del s key).2.1, x.1.size ≤ b := by
  have hr := height_range key
  obtain ⟨g1, g2, _⟩ := has_node h hs1 hh
  have ho := delK_like h key (hasIn s key (L s 0)) (height key) hr.2
  intro x hx
  rcases List.mem_or_eq_of_mem_set hx with hx | rfl
  · obtain ⟨y, hy, e, _⟩ := ho.mem hx
    rw [e]; exact hk y hy
  · show (nodeAt _ _).1.size ≤ b
    rw [(ho.keys _ g1).1]
    have : nodeAt s (hasIn s key (L s 0)) ∈ s.2.1 := by
      unfold nodeAt; rw [getD_lt (by omega)]; exact List.getElem_mem _
    exact hk _ this
def Drawn (s : Skip) : Prop := s.1.length = 4 ∧ Small 64 s ∧ ∀ x ∈ s.2.1, x.1.size ≤ 2
theorem drawn_put {s : Skip} (h : Drawn s) {key : ByteArray} (hk : key.size ≤ 2) : Drawn (putR s key).1 := by
  unfold putR
  split
  · rename_i k; exact ⟨(put_is k.1 key).heads, put_small k.1 (by omega) h.2.1 key, put_keys k.1 key h.2.2 hk⟩
  · exact h
theorem drawn_del {s : Skip} (h : Drawn s) {key : ByteArray} : Drawn (delR s key).1 := by
  have := h.2.1.2.1
  unfold delR
  split
  · rename_i k
    refine ⟨?_, del_small k.1 h.2.1 key, del_keys k.1 (by omega) k.2 h.2.2⟩
    show (delK ..).1.length = 4
    rw [(delK_like k.1 key _ _ (height_range key).2).heads, h.1]
  · exact h
theorem drawn_big {s : Skip} (h : Drawn s) : Small 1048576 s ∧ ∀ x ∈ s.2.1, x.1.size ≤ maxLen := by
  have := maxLen_def
  exact ⟨h.2.1.mono (by omega), fun x hx => by have := h.2.2 x hx; omega⟩
theorem drawRight_L {X : Ext} (hX : XOk X) (n : Nat) (hn : W + 3 ≤ n) (K0 : Cur → Skip → Skip → Option ((Skip × Unit) × (Cur × Unit))) (z : Skip) : ∀ (m i : Nat) (c : Cur) (s : Skip), CurOk c → Drawn s → i ≤ 14 → 14 - i < m →
    ∃ (c' : Cur) (s' : Skip), CurOk c' ∧ Drawn s' ∧ spec_l20DrawRight_L0 (DD X n) n K0 m i c z s = K0 c' z s'
  | 0, _, _, _, _, _, _, h => by omega
  | m + 1, i, c, s, hc, hs, hi, hm => by
    have hd := maxLen_def
    have hW := W_def
    simp only [spec_l20DrawRight_L0, spec_l20DrawRight_b0]
    obtain ⟨x, c1, h1, _, hc1, e1⟩ := c_l1Below hX (n := n) (by omega) hc 14
    obtain ⟨x0, x1⟩ := h1 (by omega)
    rw [e1, bindD_some]
    dsimp only
    by_cases hlt : (i : Int) < x
    · obtain ⟨b, c2, hc2, e2⟩ := c_l1Once hX (n := n) (by omega) hc1 5
      obtain ⟨key, c3, hk, hc3, e3⟩ := c_l20DrawKey hX (n := n) (by omega) hc2
      obtain ⟨b1, b2⟩ := drawn_big hs
      rw [br_pos hlt, e2, bindD_some]
      dsimp only
      cases b with
      | true =>
        rw [br_t, e3, bindD_some]
        dsimp only
        rw [show (s.1, s.2.1, ()) = s from rfl, c_specSkipDel hX hn s b1 b2 key (by omega), bindD_some, wrap_succ (by omega)]
        exact drawRight_L hX n hn K0 z m (i + 1) c3 (delR s key).1 hc3 (drawn_del hs) (by omega) (by omega)
      | false =>
        rw [br_f, e3, bindD_some]
        dsimp only
        rw [show (s.1, s.2.1, ()) = s from rfl, c_specSkipPut hX hn s b1 b2 key (by omega), bindD_some, wrap_succ (by omega)]
        exact drawRight_L hX n hn K0 z m (i + 1) c3 (putR s key).1 hc3 (drawn_put hs hk) (by omega) (by omega)
    · rw [br_neg hlt]
      exact ⟨c1, s, hc1, hs, rfl⟩
theorem new_drawn : Drawn newSkip := ⟨rfl, newSmall (by omega), fun x hx => by simp [newSkip] at hx⟩
theorem c_l20DrawRight {X : Ext} (hX : XOk X) {n : Nat} (hn : W + 4 ≤ n) {c : Cur} (hc : CurOk c) : ∃ (s : Skip) (c' : Cur), Drawn s ∧ CurOk c' ∧ C_spec_l20DrawRight (DD X n) c = some ((s, ()), (c', ())) := by
  obtain ⟨n, rfl⟩ : ∃ k, n = k + 1 := ⟨n - 1, by omega⟩
  have hW := W_def
  rw [S_spec_l20DrawRight hX]
  simp only [F_spec_l20DrawRight, spec_l20DrawRight_e, spec_l20DrawRight_LP0]
  rw [c_specSkipNew hX (by omega), bindD_some]
  dsimp only
  obtain ⟨c', s', h1, h2, e⟩ := drawRight_L hX n (by omega) (fun v0_0 v0_1 v0_2 => spec_l20DrawRight_x0_0 (DD X n) n v0_0 v0_1 v0_2) ([], [], ()) n 0 c newSkip hc new_drawn (by omega) (by omega)
  rw [show ((0 : Nat) : Int) = 0 from rfl] at e
  rw [show (newSkip.1, newSkip.2.1, ()) = newSkip from rfl]
  exact ⟨s', c', h2, h1, e⟩
end Go.G

namespace Go.G
open Go Go.V
def Drew (s : Skip) : Prop := Small 128 s ∧ ∀ x ∈ s.2.1, x.1.size ≤ 2
theorem Drew.set {s : Skip} (h : Drew s) (i : Nat) (x : Lane) (h1 : x.1.size ≤ 2) (h2 : x.2.1.length ≤ 128) : Drew (s.1, s.2.1.set i x, ()) := by
  refine ⟨⟨h.1.1, by show (List.set ..).length ≤ 128; rw [List.length_set]; exact h.1.2.1, fun y hy => ?_⟩, fun y hy => ?_⟩
  · rcases List.mem_or_eq_of_mem_set hy with hy | rfl
    · exact h.1.2.2 y hy
    · exact h2
  · rcases List.mem_or_eq_of_mem_set hy with hy | rfl
    · exact h.2 y hy
    · exact h1
theorem drew_big {s : Skip} (h : Drew s) : Small 1048576 s ∧ ∀ x ∈ s.2.1, x.1.size ≤ maxLen := by
  have := maxLen_def
  exact ⟨h.1.mono (by omega), fun x hx => by have := h.2 x hx; omega⟩
theorem c_l20Draw {X : Ext} (hX : XOk X) {n : Nat} (hn : W + 5 ≤ n) {c : Cur} (hc : CurOk c) : ∃ (s : Skip) (c' : Cur), Drew s ∧ CurOk c' ∧ C_spec_l20Draw (DD X n) c = some ((s, ()), (c', ())) := by
  obtain ⟨n, rfl⟩ : ∃ k, n = k + 1 := ⟨n - 1, by omega⟩
  have hW := W_def
  have hb := bound_def
  rw [S_spec_l20Draw hX]
  simp only [F_spec_l20Draw, spec_l20Draw_e]
  obtain ⟨s, c1, hs, hc1, e1⟩ := c_l20DrawRight hX (n := n) (by omega) hc
  obtain ⟨x, c2, _, _, hc2, e2⟩ := c_l1Below hX (n := n) (by omega) hc1 10
  have hd : Drew s := ⟨hs.2.1.mono (by omega), hs.2.2⟩
  rw [e1, bindD_some]
  dsimp only
  rw [e2, bindD_some]
  dsimp only
  by_cases h0 : x = 0
  · rw [decide_eq_true h0, br_t]
    obtain ⟨y, c3, h3, _, hc3, e3⟩ := c_l1Below hX (n := n) (by omega) hc2 4
    obtain ⟨y0, y1⟩ := h3 (by omega)
    obtain ⟨z, c4, _, _, hc4, e4⟩ := c_l1Below hX (n := n) (by omega) hc3 6
    rw [e3, bindD_some]
    dsimp only
    rw [e4, bindD_some]
    dsimp only
    rw [ixn y0 (by rw [hs.1]; exact y1), br_t]
    refine ⟨(s.1.set y.toNat (IntKind.wrap IntKind.i64 (z - 2)), s.2.1, ()), c4, ⟨⟨?_, hd.1.2.1, hd.1.2.2⟩, hd.2⟩, hc4, rfl⟩
    show (List.set ..).length ≤ 128
    rw [List.length_set]; exact hd.1.1
  · rw [decide_eq_false h0, br_f]
    by_cases h1 : x = 1
    · rw [decide_eq_true h1, br_t]
      by_cases hl : (s.2.1.length : Int) > 0
      · have hl' : 0 < s.2.1.length := by omega
        have hn0 : s.2.1.getD 0 (ByteArray.empty, [], ()) ∈ s.2.1 := by rw [getD_lt hl']; exact List.getElem_mem _
        have hlt : decide ((0 : Int) < (s.2.1.length : Int)) = true := decide_eq_true hl
        have hnx := hs.2.1.2.2 _ hn0
        simp only [getD_set_same hl', List.set_set, List.length_set, hlt, decide_eq_true (Nat.le_refl 0), Bool.and_self, br_t]
        rw [br_pos (by omega)]
        refine ⟨_, c2, ?_, hc2, rfl⟩
        have hk := hd.2 _ hn0
        refine hd.set 0 (_, _ ++ [-1], _) hk ?_
        show (_ ++ [(-1 : Int)]).length ≤ 128
        rw [List.length_append]; simp only [List.length_cons, List.length_nil]; omega
      · rw [br_neg hl]
        exact ⟨_, _, hd, hc2, rfl⟩
    · rw [decide_eq_false h1, br_f]
      by_cases h2 : x = 2
      · rw [decide_eq_true h2, br_t]
        by_cases hl : (s.2.1.length : Int) > 0
        · rw [br_pos hl]
          obtain ⟨y, c3, h3, _, hc3, e3⟩ := c_l1Below hX (n := n) (by omega) hc2 (s.2.1.length : Int)
          obtain ⟨y0, y1⟩ := h3 (by omega)
          rw [e3, bindD_some]
          dsimp only
          rw [ixn y0 y1, br_t]
          have hm : s.2.1.getD y.toNat (ByteArray.empty, [], ()) ∈ s.2.1 := by rw [getD_lt (by omega)]; exact List.getElem_mem _
          refine ⟨_, c3, ?_, hc3, rfl⟩
          have hk := hd.1.2.2 _ hm
          have hz : (ByteArray.mk #[UInt8.ofNat 122, UInt8.ofNat 122]).size ≤ 2 := by decide
          exact hd.set y.toNat (ByteArray.mk #[UInt8.ofNat 122, UInt8.ofNat 122], (s.2.1.getD y.toNat (ByteArray.empty, [], ())).2) hz hk
        · rw [br_neg hl]
          exact ⟨_, _, hd, hc2, rfl⟩
      · rw [decide_eq_false h2, br_f]
        exact ⟨_, _, hd, hc2, rfl⟩
theorem c_drawSkipAll {X : Ext} (hX : XOk X) {n : Nat} (hn : W + 6 ≤ n) (a : List Int) (ha : a.length ≤ 1048576) : ∃ s : Skip, Drew s ∧ C_spec_DrawSkipAll (DD X n) a = some ((s, ()), ()) := by
  obtain ⟨n, rfl⟩ : ∃ k, n = k + 1 := ⟨n - 1, by omega⟩
  rw [S_spec_DrawSkipAll hX]
  simp only [F_spec_DrawSkipAll, spec_DrawSkipAll_e]
  obtain ⟨c, hc, e⟩ := c_l1New hX (n := n) (by omega) a ha
  obtain ⟨s, c', hs, hc', e'⟩ := c_l20Draw hX (n := n) (by omega) hc
  refine ⟨s, hs, ?_⟩
  rw [e, bindD_some]
  dsimp only
  rw [e', bindD_some]
end Go.G

namespace Go.G
open Go Go.V
open Classical
noncomputable def upTo (s : Skip) (a : Int) : Nat := if a = -1 then 0 else ((L s 0).filter fun e => decide (¬ klt (nodeAt s a).1 (nodeAt s e).1)).length
theorem upTo_le (s : Skip) (a : Int) : upTo s a ≤ (L s 0).length := by
  unfold upTo
  split
  · exact Nat.zero_le _
  · exact List.length_filter_le _ _
theorem filter_lt {α : Type} {p q : α → Bool} (hpq : ∀ x, p x = true → q x = true) : ∀ {l : List α} {x : α}, x ∈ l → p x = false → q x = true → (l.filter p).length + 1 ≤ (l.filter q).length
  | y :: l, x, h, h1, h2 => by
    have hle : ∀ l : List α, (l.filter p).length ≤ (l.filter q).length := by
      intro l
      induction l with
      | nil => simp
      | cons z l ih =>
        simp only [List.filter_cons]
        cases hp : p z with
        | true => rw [hpq z hp]; simp; exact ih
        | false => cases q z <;> simp <;> omega
    simp only [List.filter_cons]
    rcases List.mem_cons.1 h with rfl | h
    · rw [h1, h2]; simp; exact hle l
    · have ih := filter_lt hpq h h1 h2
      cases hp : p y with
      | true => rw [hpq y hp]; simp; omega
      | false => cases q y <;> simp <;> omega
theorem upTo_lt {s : Skip} {a x : Int} (hx : x ∈ L s 0) (ha : a = -1 ∨ klt (nodeAt s a).1 (nodeAt s x).1) : upTo s a + 1 ≤ upTo s x := by
  have hx0 : x ≠ -1 := fun e => by have := ((L_inc s 0).rng x hx).1; omega
  unfold upTo
  rw [if_neg hx0]
  by_cases e : a = -1
  · rw [if_pos e]
    have : x ∈ (L s 0).filter fun e => decide (¬ klt (nodeAt s x).1 (nodeAt s e).1) := List.mem_filter.2 ⟨hx, decide_eq_true (klt_irrefl _)⟩
    have := List.length_pos_of_mem this
    omega
  · rw [if_neg e]
    have h := ha.resolve_left e
    exact filter_lt (fun z hz => by
      simp only [decide_eq_true_eq] at hz ⊢
      exact fun k => hz (klt_trans h k)) hx (decide_eq_false (fun k => k h)) (decide_eq_true (klt_irrefl _))
theorem walk_upTo {s : Skip} {key : ByteArray} : ∀ (r : List Int) (a : Int) (c : Nat), (∀ x ∈ r, x ∈ L s 0) → (∀ x ∈ r, a = -1 ∨ klt (nodeAt s a).1 (nodeAt s x).1) → r.Pairwise (fun x y => klt (nodeAt s x).1 (nodeAt s y).1) →
    (walk s key a c r).2 + upTo s a ≤ c + upTo s (walk s key a c r).1 + 1
  | [], a, c, _, _, _ => by simp only [walk]; omega
  | x :: r, a, c, hm, ha, hp => by
    simp only [walk]
    split
    · have h1 := upTo_lt (hm x (List.mem_cons_self ..)) (ha x (List.mem_cons_self ..))
      have h2 := walk_upTo r x (c + 1) (fun y hy => hm y (List.mem_cons_of_mem _ hy)) (fun y hy => .inr ((List.pairwise_cons.1 hp).1 y hy)) (List.pairwise_cons.1 hp).2 (key := key)
      omega
    · simp only; omega
theorem aft_pw2 {s : Skip} : ∀ {l : List Int} {a : Int}, l.Pairwise (fun x y => klt (nodeAt s x).1 (nodeAt s y).1) → (aft l a).Pairwise (fun x y => klt (nodeAt s x).1 (nodeAt s y).1) ∧ ∀ x ∈ aft l a, klt (nodeAt s a).1 (nodeAt s x).1
  | [], a, _ => ⟨List.Pairwise.nil, fun x h => by simp [aft] at h⟩
  | y :: l, a, h => by
    obtain ⟨h1, h2⟩ := List.pairwise_cons.1 h
    simp only [aft]
    by_cases e : y = a
    · subst e; rw [if_pos rfl]; exact ⟨h2, h1⟩
    · rw [if_neg e]; exact aft_pw2 h2
theorem stp_upTo {s : Skip} (h : okP s) (key : ByteArray) : ∀ d, d ≤ 4 → (stp s key d).2 ≤ upTo s (stp s key d).1 + d
  | 0, _ => by simp [stp]
  | d + 1, hd => by
    have ih := stp_upTo h key d (by omega)
    have hw := (L_inc s (3 - d)).pw
    simp only [stp]
    have := walk_upTo (s := s) (key := key) (rest (L s (3 - d)) (stp s key d).1) (stp s key d).1 (stp s key d).2
      (fun x hx => ok_down h (Nat.zero_le _) (by omega) (rest_mem _ _ x hx))
      (by
        intro x hx
        unfold rest at hx
        split at hx
        · rename_i e; exact .inl e
        · exact .inr ((aft_pw2 hw).2 x hx))
      (by
        unfold rest
        split
        · exact hw
        · exact (aft_pw2 hw).1)
    omega
theorem seek_cnt {s : Skip} (h : okP s) (key : ByteArray) : (stp s key 4).2 ≤ (keys s).length + 4 := by
  have h1 := stp_upTo h key 4 (by omega)
  have h2 := upTo_le s (stp s key 4).1
  unfold keys
  rw [if_pos h, List.length_map]
  omega
end Go.G

/- The row FnSkipSeeks holds: for all bytes the law returns true and the argument reads as before. No condition. -/
namespace Go.G
set_option linter.unusedVariables false
set_option maxRecDepth 100000
open Go Go.V Go.Proofs
open Classical

theorem c_drawSkipSeek {X : Ext} (hX : XOk X) {n : Nat} (hn : W + 6 ≤ n) (a : List Int) (ha : a.length ≤ 1048576) : ∃ (s : Skip) (key : ByteArray), Drew s ∧ key.size ≤ 2 ∧ C_spec_DrawSkipSeek (DD X n) a = some ((s, key, ()), ()) := by
  obtain ⟨n, rfl⟩ : ∃ k, n = k + 1 := ⟨n - 1, by omega⟩
  have hW := W_def
  rw [S_spec_DrawSkipSeek hX]
  simp only [F_spec_DrawSkipSeek, spec_DrawSkipSeek_e]
  obtain ⟨c, hc, e⟩ := c_l1New hX (n := n) (by omega) a ha
  obtain ⟨s, c', hs, hc', e'⟩ := c_l20Draw hX (n := n) (by omega) hc
  obtain ⟨x, c2, hx, hc2, e2⟩ := c_l20DrawKey hX (n := n) (by omega) hc'
  refine ⟨s, x, hs, hx, ?_⟩
  rw [e, bindD_some]
  dsimp only
  rw [e', bindD_some]
  dsimp only
  rw [e2, bindD_some]
/-- the first key that is not less -/
noncomputable def firstKey (key : ByteArray) (l : List ByteArray) : Option ByteArray := l.find? fun x => decide (¬ klt x key)
theorem firstGe_key {s : Skip} {key : ByteArray} : ∀ (l : List Int), (∀ x ∈ l, x ≠ -1) → firstKey key (l.map fun p => (nodeAt s p).1) = if firstGe s key l = -1 then none else some (nodeAt s (firstGe s key l)).1
  | [], _ => by simp [firstKey, firstGe]
  | x :: l, h => by
    have ih := firstGe_key l (fun y hy => h y (List.mem_cons_of_mem _ hy)) (s := s) (key := key)
    unfold firstKey at ih ⊢
    simp only [List.map_cons, List.find?_cons]
    by_cases k : klt (nodeAt s x).1 key
    · have e : firstGe s key (x :: l) = firstGe s key l := by simp only [firstGe, if_pos k]
      rw [decide_eq_false (fun h => h k), e]; exact ih
    · have e : firstGe s key (x :: l) = x := by simp only [firstGe, if_neg k]
      rw [decide_eq_true k, e, if_neg (h x (List.mem_cons_self ..))]
theorem seekR_key (s : Skip) (key : ByteArray) : ∃ n : Int, 0 ≤ n ∧ n ≤ (keys s).length + 4 ∧ seekR s key = match firstKey key (keys s) with | some x => (x, n, true, ()) | none => (ByteArray.mk #[], n, false, ()) := by
  unfold seekR
  by_cases h : okP s
  · have hc := seek_cnt h key
    refine ⟨((stp s key 4).2 : Int), by omega, by omega, ?_⟩
    have hl := (L_inc s 0)
    have hne : ∀ x ∈ L s 0, x ≠ -1 := fun x hx => by have := (hl.rng x hx).1; omega
    have hpath : path s 0 (nxt s (-1) 0) (L s 0) := by
      unfold nxt; rw [if_pos rfl]; exact L_path (h.2.2.1 0 (by omega))
    have hf := nxt_first (s := s) (key := key) (L s 0) (-1) hpath hne hl.pw
    have hb := bef_last h key (j := 0) (by omega)
    rw [if_pos h, hb, hf]
    have hk : keys s = (L s 0).map fun p => (nodeAt s p).1 := by unfold keys; rw [if_pos h]
    rw [hk, firstGe_key (L s 0) hne]
    by_cases e : firstGe s key (L s 0) = -1
    · rw [if_pos e, if_pos e]
    · rw [if_neg e, if_neg e]
  · refine ⟨0, by omega, by omega, ?_⟩
    have hk : keys s = [] := by unfold keys; rw [if_neg h]
    rw [if_neg h, hk]; rfl
theorem seeks2_L (D : Den ctx) (n : Nat) (K0 : Bool → Int → Bool → List ByteArray → Option ((Bool × Unit) × Unit)) (K1 : Int → Bool → List ByteArray → Option ((Bool × Unit) × Unit)) (key got : ByteArray) (c : Int) (ok : Bool) (l : List ByteArray) (hl : l.length ≤ 128) (hc : c ≤ l.length + 4) : ∀ (m i : Nat), i ≤ l.length → l.length - i < m →
    (∀ x, firstKey key (l.drop i) = some x → ok = true ∧ got = x) →
    laws_FnSkipSeeks_L0 D n K0 K1 m key got c ok i l = match firstKey key (l.drop i) with | some _ => K0 true c ok l | none => K1 c ok l
  | 0, _, _, h, _ => by omega
  | m + 1, i, hi, hf, hx => by
    simp only [laws_FnSkipSeeks_L0, laws_FnSkipSeeks_b0]
    by_cases h : i < l.length
    · rw [br_pos (by exact_mod_cast h), ix h, br_t, Int.toNat_natCast, getD_lt h, br_t]
      rw [drop_cons h] at hx ⊢
      by_cases k : klt l[i] key
      · have e : firstKey key (l[i] :: l.drop (i + 1)) = firstKey key (l.drop (i + 1)) := by
          unfold firstKey; rw [List.find?_cons, decide_eq_false (fun h => h k)]
        rw [bl_true k, Bool.not_true, br_f, wrap_succ (by omega), e]
        rw [e] at hx
        exact seeks2_L D n K0 K1 key got c ok l hl hc m (i + 1) (by omega) (by omega) hx
      · have e : firstKey key (l[i] :: l.drop (i + 1)) = some l[i] := by
          unfold firstKey; rw [List.find?_cons, decide_eq_true k]
        obtain ⟨h1, h2⟩ := hx _ e
        rw [bl_false k, Bool.not_false, br_t, h1, br_t, h2, beq_bytes, decide_eq_true rfl, br_t, wrap_id (by omega) (by omega), decide_eq_true hc, e]
    · rw [br_neg (by exact_mod_cast h), drop_end h]; rfl
theorem fnSkipSeeks_law (a : List Int) : C_laws_FnSkipSeeks (DD noExt (W + 8)) a = some ((true, ()), ()) := by
  have hX := noExt_ok
  have hd := maxLen_def
  have hW := W_def
  rw [S_laws_FnSkipSeeks hX]
  simp only [F_laws_FnSkipSeeks, laws_FnSkipSeeks_e, laws_FnSkipSeeks_LP0]
  rw [c_big hX (by omega), bindD_some]; dsimp only
  by_cases h : (a.length : Int) > 1048576
  · rw [decide_eq_true h, br_t]
  · rw [decide_eq_false h, br_f]
    obtain ⟨s, key, hs, hk, e⟩ := c_drawSkipSeek hX (n := W + 7) (by omega) a (by omega)
    obtain ⟨b1, b2⟩ := drew_big hs
    have hlen : (keys s).length ≤ 128 := Nat.le_trans (keys_len s) hs.1.2.1
    obtain ⟨c, c0, c1, er⟩ := seekR_key s key
    rw [e, bindD_some]; dsimp only
    rw [show (s.1, s.2.1, ()) = s from rfl, c_implSkipSeek hX (by omega) s b1.2.1 b2 key, bindD_some]; dsimp only
    rw [c_specSkipSeek hX (by omega) s b1.2.1 b2 key, bindD_some]; dsimp only
    rw [beq_bytes, decide_eq_true rfl, Bool.not_true, cond_false, bne_self_eq_false, cond_false, decide_eq_true rfl, Bool.not_true, br_f, c_implSkipAll hX (by omega) s b1.2.1 b2, bindD_some]; dsimp only
    have e0 := seeks2_L (DD noExt (W + 7)) (W + 7) (fun v0_0 v0_1 v0_2 v0_3 => laws_FnSkipSeeks_x0_0 (DD noExt (W + 7)) (W + 7) v0_0 v0_1 v0_2 v0_3) (fun v1_0 v1_1 v1_2 => laws_FnSkipSeeks_x0_1 (DD noExt (W + 7)) (W + 7) v1_0 v1_1 v1_2) key (seekR s key).1 (seekR s key).2.1 (seekR s key).2.2.1 (keys s) hlen
      (by rw [er]; split <;> exact c1) (W + 7) 0 (by omega) (by omega) (fun x hx => by rw [List.drop_zero] at hx; rw [er, hx]; exact ⟨rfl, rfl⟩)
    rw [show ((0 : Nat) : Int) = 0 from rfl, List.drop_zero] at e0
    refine Eq.trans e0 ?_
    rw [er]
    cases hf : firstKey key (keys s) with
    | some x => rfl
    | none =>
      simp only [laws_FnSkipSeeks_x0_1]
      rw [Bool.not_false, br_t, wrap_id (by omega) (by omega), decide_eq_true c1]
end Go.G
namespace Go.Proofs.Ytjjcilkcffigeaa
open Go.ChangeShapes Go.WideShapes Go.ChangeAt Go.RowKit Go.V Go.G
set_option maxRecDepth 100000
theorem fnSkipSeeks_lifted (os : Os) (started : os.Started) (H : Type) (enc : TypeId × Value → H) :
    ReturnsInHanded {} Try.checked os 13 .any (Rows.fnSkipSeeksSpec.pre6 enc Try.prog Try.f13 Rows.fnSkipSeeksRow.domain false) (Rows.fnSkipSeeksSpec.post enc Try.prog Try.f13 false true false false) :=
  lifted_of (X := noExt) (tb := 4) started Try.func13 (by kernel_rfl)
    (ChangeSpec.witness6 (enc := enc) (C := Try.checked) false ⟨#[], Try.f13.params.map fun t => ((Try.prog.info? t).bind (·.zero)).getD .nilIface, []⟩ 8 (by kernel_rfl) (by kernel_rfl) (by kernel_rfl) (by kernel_rfl))
    ⟨rfl, rfl, trivial⟩ (by kernel_rfl) (by kernel_rfl) (by kernel_rfl) rfl
    (fun ds h => by
      match ds, h with
      | [d0], _ => exact ⟨rfl, rfl, rfl⟩)
    (fun a wa => ⟨W + 8, ((true, ()), ()), fnSkipSeeks_law a.1, fun h Pr Gs us k => by
      obtain ⟨v, vs, rfl, ⟨c, r, rfl⟩, e⟩ := k
      obtain rfl : vs = [] := e
      simp only [Rep] at r
      subst r
      rfl⟩)
theorem fnSkipSeeks_holds : Rows.FnSkipSeeksSaid :=
  OpenClaim.holds_of_wide 13 Try.f13 rfl rfl rfl rfl rfl rfl rfl ⟨rfl, rfl, rfl, rfl, rfl⟩ rfl rfl rfl rfl rfl (by kernel_rfl) Try.func13 (by kernel_rfl)
    (of_decide_eq_true (by kernel_rfl)) (by unfold Func.isWrapper; first | (rw [if_pos (by decide +kernel)]; kernel_rfl) | (rw [if_neg (by decide +kernel)]; exact ⟨rfl, rfl⟩))
    (fun os started H enc _ => fnSkipSeeks_lifted os started H enc)
#print axioms fnSkipSeeks_holds
end Go.Proofs.Ytjjcilkcffigeaa


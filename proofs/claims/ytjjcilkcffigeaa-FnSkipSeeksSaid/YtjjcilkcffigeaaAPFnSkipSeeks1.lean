import Derived.Test.YtjjcilkcffigeaaAPFnSkipSeeks0
set_option linter.unusedVariables false
set_option linter.unusedSimpArgs false
set_option linter.unusedSectionVars false
namespace Go.G
set_option maxRecDepth 100000
set_option maxHeartbeats 0
open Go Go.V
noncomputable def spec_l20Lane_b0 (D : Den ctx) (n : Nat) (go : Int → Int → List Int × List (ByteArray × List Int × Unit) × Unit → List Int → Option ((List Int × Bool × Unit) × Unit)) (K0 : Bool → List Int → List Int → Option ((List Int × Bool × Unit) × Unit)) (K1 : List Int → Option ((List Int × Bool × Unit) × Unit)) (x0 : Int) (x1 : Int) (x2 : List Int × List (ByteArray × List Int × Unit) × Unit) (x3 : List Int) : Option ((List Int × Bool × Unit) × Unit) := br (x1 != -1) (bindD (C_spec_l1In D x1 0 (IntKind.wrap IntKind.i64 ((↑(List.length (Prod.fst (Prod.snd x2))) : Int) - 1))) fun b ↦ br (bif !Prod.fst (Prod.fst b) then true else decide ((↑(List.length x3) : Int) ≥ (↑(List.length (Prod.fst (Prod.snd x2))) : Int))) (K0 false [] x3) (br (decide (0 ≤ x1) && decide (x1 < (↑(List.length (Prod.fst (Prod.snd x2))) : Int))) (br (decide ((↑(List.length (Prod.fst (Prod.snd (List.getD (Prod.fst (Prod.snd x2)) (Int.toNat x1) (ByteArray.empty, [], ()))))) : Int) ≤ x0)) (K0 false [] x3) (br (decide ((↑(List.length x3) : Int) > 0)) (br (decide (0 ≤ IntKind.wrap IntKind.i64 ((↑(List.length x3) : Int) - 1)) && decide (IntKind.wrap IntKind.i64 ((↑(List.length x3) : Int) - 1) < (↑(List.length x3) : Int))) (br (decide (0 ≤ List.getD x3 (Int.toNat (IntKind.wrap IntKind.i64 ((↑(List.length x3) : Int) - 1))) 0) && decide (List.getD x3 (Int.toNat (IntKind.wrap IntKind.i64 ((↑(List.length x3) : Int) - 1))) 0 < (↑(List.length (Prod.fst (Prod.snd x2))) : Int))) (br (decide (0 ≤ x1) && decide (x1 < (↑(List.length (Prod.fst (Prod.snd x2))) : Int))) (br (!Op.bytesLess (ByteArray.toList (Prod.fst (List.getD (Prod.fst (Prod.snd x2)) (Int.toNat (List.getD x3 (Int.toNat (IntKind.wrap IntKind.i64 ((↑(List.length x3) : Int) - 1))) 0)) (ByteArray.empty, [], ())))) (ByteArray.toList (Prod.fst (List.getD (Prod.fst (Prod.snd x2)) (Int.toNat x1) (ByteArray.empty, [], ()))))) (K0 false [] x3) (br (decide (List.length x3 + 1 ≤ bound)) (br (decide (0 ≤ x1) && decide (x1 < (↑(List.length (Prod.fst (Prod.snd x2))) : Int))) (br (decide (0 ≤ x0) && decide (x0 < (↑(List.length (Prod.fst (Prod.snd (List.getD (Prod.fst (Prod.snd x2)) (Int.toNat x1) (ByteArray.empty, [], ()))))) : Int))) (go x0 (List.getD (Prod.fst (Prod.snd (List.getD (Prod.fst (Prod.snd x2)) (Int.toNat x1) (ByteArray.empty, [], ())))) (Int.toNat x0) 0) x2 (x3 ++ [x1])) none) none) none)) none) none) none) (br (decide (List.length x3 + 1 ≤ bound)) (br (decide (0 ≤ x1) && decide (x1 < (↑(List.length (Prod.fst (Prod.snd x2))) : Int))) (br (decide (0 ≤ x0) && decide (x0 < (↑(List.length (Prod.fst (Prod.snd (List.getD (Prod.fst (Prod.snd x2)) (Int.toNat x1) (ByteArray.empty, [], ()))))) : Int))) (go x0 (List.getD (Prod.fst (Prod.snd (List.getD (Prod.fst (Prod.snd x2)) (Int.toNat x1) (ByteArray.empty, [], ())))) (Int.toNat x0) 0) x2 (x3 ++ [x1])) none) none) none))) none)) (K1 x3)
noncomputable def spec_l20Lane_L0 (D : Den ctx) (n : Nat) (K0 : Bool → List Int → List Int → Option ((List Int × Bool × Unit) × Unit)) (K1 : List Int → Option ((List Int × Bool × Unit) × Unit)) : Nat → (Int) → (Int) → (List Int × List (ByteArray × List Int × Unit) × Unit) → (List Int) → Option ((List Int × Bool × Unit) × Unit) | 0 => (fun x0 x1 x2 x3 => none) | m + 1 => (fun x0 x1 x2 x3 => spec_l20Lane_b0 D n (spec_l20Lane_L0 D n K0 K1 m) K0 K1 x0 x1 x2 x3)
noncomputable def spec_l20Lane_x0_0 (D : Den ctx) (n : Nat) (v0_0 : Bool) (v0_1 : List Int) (v0_2 : List Int) : Option ((List Int × Bool × Unit) × Unit) := some ((v0_1, v0_0, ()), ())
noncomputable def spec_l20Lane_x0_1 (D : Den ctx) (n : Nat) (v1_0 : List Int) : Option ((List Int × Bool × Unit) × Unit) := some ((v1_0, true, ()), ())
noncomputable def spec_l20Lane_LP0 (D : Den ctx) (n : Nat) : (Int) → (Int) → (List Int × List (ByteArray × List Int × Unit) × Unit) → (List Int) → Option ((List Int × Bool × Unit) × Unit) := (fun x0 x1 x2 x3 => spec_l20Lane_L0 D n (fun v0_0 v0_1 v0_2 => spec_l20Lane_x0_0 D n v0_0 v0_1 v0_2) (fun v1_0 => spec_l20Lane_x0_1 D n v1_0) n x0 x1 x2 x3)
noncomputable def spec_l20Lane_e (D : Den ctx) (n : Nat) (lp0 : Int → Int → List Int × List (ByteArray × List Int × Unit) × Unit → List Int → Option ((List Int × Bool × Unit) × Unit)) (a0 : List Int × List (ByteArray × List Int × Unit) × Unit) (a1 : Int) : Option ((List Int × Bool × Unit) × Unit) := br (decide (0 ≤ a1) && decide (a1 < (↑(List.length (Prod.fst a0)) : Int))) (lp0 a1 (List.getD (Prod.fst a0) (Int.toNat a1) 0) a0 []) none
noncomputable def F_spec_l20Lane (D : Den ctx) (n : Nat) (a0 : List Int × List (ByteArray × List Int × Unit) × Unit) (a1 : Int) : Option ((List Int × Bool × Unit) × Unit) := spec_l20Lane_e D n (spec_l20Lane_LP0 D n) a0 a1
def spec_l20Lane_Q0 (x0 : Int) (x1 : Int) (x2 : List Int × List (ByteArray × List Int × Unit) × Unit) (x3 : List Int) : St := stq 82 [(1, AV.val (Ty.int IntKind.i64) x0), (2, AV.addr 2 []), (6, AV.brw 6 [] 0), (7, AV.val (Ty.int IntKind.i64) x1)] [(2, Root.mk (Ty.pair (Ty.sl (Ty.int IntKind.i64)) (Ty.pair (Ty.sl (Ty.pair Ty.str (Ty.pair (Ty.sl (Ty.int IntKind.i64)) Ty.unit))) Ty.unit)) Mk.no x2 true), (6, Root.mk (Ty.sl (Ty.int IntKind.i64)) (Mk.own 0 Mk.no) x3 false)]
def spec_l20Lane_Q0_0 (v0_0 : Bool) (v0_1 : List Int) (v0_2 : List Int) : St := stq 82 [(4, AV.brw 4 [] 0), (5, AV.val Ty.bool v0_0), (6, AV.brw 6 [] 0)] [(4, Root.mk (Ty.sl (Ty.int IntKind.i64)) (Mk.own 0 Mk.no) v0_1 false), (6, Root.mk (Ty.sl (Ty.int IntKind.i64)) (Mk.own 0 Mk.no) v0_2 false)]
def spec_l20Lane_Q0_1 (v1_0 : List Int) : St := stq 82 [(6, AV.brw 6 [] 0)] [(6, Root.mk (Ty.sl (Ty.int IntKind.i64)) (Mk.own 0 Mk.no) v1_0 false)]
theorem spec_l20Lane_SB0 (D : Den ctx) (n : Nat) (m : Nat) (K : Ex → St → Option (Out ctx 79)) (x0 : Int) (x1 : Int) (x2 : List Int × List (ByteArray × List Int × Unit) × Unit) (x3 : List Int) :
  LQ funcTab D n 79 [.r, .r, .r, .l, .l] (m + 1) (spec_l20Lane_Q0 x0 x1 x2 x3) K = spec_l20Lane_b0 D n (fun x0 x1 x2 x3 => LQ funcTab D n 79 [.r, .r, .r, .l, .l] m (spec_l20Lane_Q0 x0 x1 x2 x3) K) (fun v0_0 v0_1 v0_2 => K (Ex.ret) (spec_l20Lane_Q0_0 v0_0 v0_1 v0_2)) (fun v1_0 => K (Ex.exit 0) (spec_l20Lane_Q0_1 v1_0)) x0 x1 x2 x3 := by kernel_rfl
theorem spec_l20Lane_EL0 (D : Den ctx) (n : Nat) (K : Ex → St → Option (Out ctx 79)) : ∀ (m : Nat) (x0 : Int) (x1 : Int) (x2 : List Int × List (ByteArray × List Int × Unit) × Unit) (x3 : List Int), LQ funcTab D n 79 [.r, .r, .r, .l, .l] m (spec_l20Lane_Q0 x0 x1 x2 x3) K = spec_l20Lane_L0 D n (fun v0_0 v0_1 v0_2 => K (Ex.ret) (spec_l20Lane_Q0_0 v0_0 v0_1 v0_2)) (fun v1_0 => K (Ex.exit 0) (spec_l20Lane_Q0_1 v1_0)) m x0 x1 x2 x3
  | 0, x0, x1, x2, x3 => LQ_zero ..
  | m + 1, x0, x1, x2, x3 => by
    have ih : (fun x0 x1 x2 x3 => LQ funcTab D n 79 [.r, .r, .r, .l, .l] m (spec_l20Lane_Q0 x0 x1 x2 x3) K) = spec_l20Lane_L0 D n (fun v0_0 v0_1 v0_2 => K (Ex.ret) (spec_l20Lane_Q0_0 v0_0 v0_1 v0_2)) (fun v1_0 => K (Ex.exit 0) (spec_l20Lane_Q0_1 v1_0)) m := by funext x0 x1 x2 x3; exact spec_l20Lane_EL0 D n K m x0 x1 x2 x3
    rw [spec_l20Lane_SB0]
    rw [ih]; rfl
theorem spec_l20Lane_X0_0 (D : Den ctx) (n : Nat) (v0_0 : Bool) (v0_1 : List Int) (v0_2 : List Int) :
  (CQ funcTab D n 79 [] [.r, .r, .r, .l, .l] (lastK funcTab 79)) (Ex.ret) (spec_l20Lane_Q0_0 v0_0 v0_1 v0_2) = spec_l20Lane_x0_0 D n v0_0 v0_1 v0_2 := by kernel_rfl
theorem spec_l20Lane_X0_1 (D : Den ctx) (n : Nat) (v1_0 : List Int) :
  (CQ funcTab D n 79 [] [.r, .r, .r, .l, .l] (lastK funcTab 79)) (Ex.exit 0) (spec_l20Lane_Q0_1 v1_0) = spec_l20Lane_x0_1 D n v1_0 := by kernel_rfl
theorem spec_l20Lane_ELP0 (D : Den ctx) (n : Nat) (x0 : Int) (x1 : Int) (x2 : List Int × List (ByteArray × List Int × Unit) × Unit) (x3 : List Int) :
  LQ funcTab D n 79 [.r, .r, .r, .l, .l] n (spec_l20Lane_Q0 x0 x1 x2 x3) (CQ funcTab D n 79 [] [.r, .r, .r, .l, .l] (lastK funcTab 79)) = spec_l20Lane_LP0 D n x0 x1 x2 x3 := by
  rw [spec_l20Lane_EL0]
  simp only [spec_l20Lane_X0_0, spec_l20Lane_X0_1]
  rfl
theorem E_spec_l20Lane (D : Den ctx) (n : Nat) (a0 : List Int × List (ByteArray × List Int × Unit) × Unit) (a1 : Int) : rfC funcTab D n 79 (a0, (a1, ())) = F_spec_l20Lane D n a0 a1 := by
  have h : rfC funcTab D n 79 (a0, (a1, ())) = spec_l20Lane_e D n (fun x0 x1 x2 x3 => LQ funcTab D n 79 [.r, .r, .r, .l, .l] n (spec_l20Lane_Q0 x0 x1 x2 x3) (CQ funcTab D n 79 [] [.r, .r, .r, .l, .l] (lastK funcTab 79))) a0 a1 := by kernel_rfl
  rw [h]
  simp only [spec_l20Lane_ELP0]
  rfl
end Go.G

namespace Go.G
set_option maxRecDepth 100000
set_option maxHeartbeats 0
open Go Go.V
noncomputable def spec_l20In_b0 (D : Den ctx) (n : Nat) (go : List Int → Int → Int → Int → Option ((Int × Unit) × Unit)) (K0 : Int → Option ((Int × Unit) × Unit)) (x0 : List Int) (x1 : Int) (x2 : Int) (x3 : Int) : Option ((Int × Unit) × Unit) := br (decide (x3 < (↑(List.length x0) : Int))) (br (decide (0 ≤ x3) && decide (x3 < (↑(List.length x0) : Int))) (bindD (C_spec_l1Bit D (decide (List.getD x0 (Int.toNat x3) 0 = x1))) fun b ↦ go x0 x1 (IntKind.wrap IntKind.i64 (x2 + Prod.fst (Prod.fst b))) (IntKind.wrap IntKind.i64 (x3 + 1))) none) (K0 x2)
noncomputable def spec_l20In_L0 (D : Den ctx) (n : Nat) (K0 : Int → Option ((Int × Unit) × Unit)) : Nat → (List Int) → (Int) → (Int) → (Int) → Option ((Int × Unit) × Unit) | 0 => (fun x0 x1 x2 x3 => none) | m + 1 => (fun x0 x1 x2 x3 => spec_l20In_b0 D n (spec_l20In_L0 D n K0 m) K0 x0 x1 x2 x3)
noncomputable def spec_l20In_x0_0 (D : Den ctx) (n : Nat) (v0_0 : Int) : Option ((Int × Unit) × Unit) := some ((v0_0, ()), ())
noncomputable def spec_l20In_LP0 (D : Den ctx) (n : Nat) : (List Int) → (Int) → (Int) → (Int) → Option ((Int × Unit) × Unit) := (fun x0 x1 x2 x3 => spec_l20In_L0 D n (fun v0_0 => spec_l20In_x0_0 D n v0_0) n x0 x1 x2 x3)
noncomputable def spec_l20In_e (D : Den ctx) (n : Nat) (lp0 : List Int → Int → Int → Int → Option ((Int × Unit) × Unit)) (a0 : List Int) (a1 : Int) : Option ((Int × Unit) × Unit) := lp0 a0 a1 0 0
noncomputable def F_spec_l20In (D : Den ctx) (n : Nat) (a0 : List Int) (a1 : Int) : Option ((Int × Unit) × Unit) := spec_l20In_e D n (spec_l20In_LP0 D n) a0 a1
def spec_l20In_Q0 (x0 : List Int) (x1 : Int) (x2 : Int) (x3 : Int) : St := stq 23 [(0, AV.val (Ty.sl (Ty.int IntKind.i64)) x0), (1, AV.val (Ty.int IntKind.i64) x1), (5, AV.val (Ty.int IntKind.i64) x2), (6, AV.val (Ty.int IntKind.i64) x3)] []
def spec_l20In_Q0_0 (v0_0 : Int) : St := stq 23 [(5, AV.val (Ty.int IntKind.i64) v0_0)] []
theorem spec_l20In_SB0 (D : Den ctx) (n : Nat) (m : Nat) (K : Ex → St → Option (Out ctx 80)) (x0 : List Int) (x1 : Int) (x2 : Int) (x3 : Int) :
  LQ funcTab D n 80 [.r, .r, .l, .r, .l] (m + 1) (spec_l20In_Q0 x0 x1 x2 x3) K = spec_l20In_b0 D n (fun x0 x1 x2 x3 => LQ funcTab D n 80 [.r, .r, .l, .r, .l] m (spec_l20In_Q0 x0 x1 x2 x3) K) (fun v0_0 => K (Ex.exit 0) (spec_l20In_Q0_0 v0_0)) x0 x1 x2 x3 := by kernel_rfl
theorem spec_l20In_EL0 (D : Den ctx) (n : Nat) (K : Ex → St → Option (Out ctx 80)) : ∀ (m : Nat) (x0 : List Int) (x1 : Int) (x2 : Int) (x3 : Int), LQ funcTab D n 80 [.r, .r, .l, .r, .l] m (spec_l20In_Q0 x0 x1 x2 x3) K = spec_l20In_L0 D n (fun v0_0 => K (Ex.exit 0) (spec_l20In_Q0_0 v0_0)) m x0 x1 x2 x3
  | 0, x0, x1, x2, x3 => LQ_zero ..
  | m + 1, x0, x1, x2, x3 => by
    have ih : (fun x0 x1 x2 x3 => LQ funcTab D n 80 [.r, .r, .l, .r, .l] m (spec_l20In_Q0 x0 x1 x2 x3) K) = spec_l20In_L0 D n (fun v0_0 => K (Ex.exit 0) (spec_l20In_Q0_0 v0_0)) m := by funext x0 x1 x2 x3; exact spec_l20In_EL0 D n K m x0 x1 x2 x3
    rw [spec_l20In_SB0]
    rw [ih]; rfl
theorem spec_l20In_X0_0 (D : Den ctx) (n : Nat) (v0_0 : Int) :
  (CQ funcTab D n 80 [] [.r, .r, .l, .r, .l] (lastK funcTab 80)) (Ex.exit 0) (spec_l20In_Q0_0 v0_0) = spec_l20In_x0_0 D n v0_0 := by kernel_rfl
theorem spec_l20In_ELP0 (D : Den ctx) (n : Nat) (x0 : List Int) (x1 : Int) (x2 : Int) (x3 : Int) :
  LQ funcTab D n 80 [.r, .r, .l, .r, .l] n (spec_l20In_Q0 x0 x1 x2 x3) (CQ funcTab D n 80 [] [.r, .r, .l, .r, .l] (lastK funcTab 80)) = spec_l20In_LP0 D n x0 x1 x2 x3 := by
  rw [spec_l20In_EL0]
  simp only [spec_l20In_X0_0]
  rfl
theorem E_spec_l20In (D : Den ctx) (n : Nat) (a0 : List Int) (a1 : Int) : rfC funcTab D n 80 (a0, (a1, ())) = F_spec_l20In D n a0 a1 := by
  have h : rfC funcTab D n 80 (a0, (a1, ())) = spec_l20In_e D n (fun x0 x1 x2 x3 => LQ funcTab D n 80 [.r, .r, .l, .r, .l] n (spec_l20In_Q0 x0 x1 x2 x3) (CQ funcTab D n 80 [] [.r, .r, .l, .r, .l] (lastK funcTab 80))) a0 a1 := by kernel_rfl
  rw [h]
  simp only [spec_l20In_ELP0]
  rfl
end Go.G

namespace Go.G
set_option maxRecDepth 100000
set_option maxHeartbeats 0
open Go Go.V
noncomputable def laws_toIntS_b0 (D : Den ctx) (n : Nat) (go : List Int → Int → List Int → Option ((List Int × Unit) × Unit)) (K0 : List Int → Option ((List Int × Unit) × Unit)) (x0 : List Int) (x1 : Int) (x2 : List Int) : Option ((List Int × Unit) × Unit) := br (decide (x1 < (↑(List.length x0) : Int))) (br (decide (0 ≤ x1) && decide (x1 < (↑(List.length x0) : Int))) (br (decide (0 ≤ x1) && decide (x1 < (↑(List.length x2) : Int))) (go x0 (IntKind.wrap IntKind.i64 (x1 + 1)) (List.set x2 (Int.toNat x1) (List.getD x0 (Int.toNat x1) 0))) none) none) (K0 x2)
noncomputable def laws_toIntS_L0 (D : Den ctx) (n : Nat) (K0 : List Int → Option ((List Int × Unit) × Unit)) : Nat → (List Int) → (Int) → (List Int) → Option ((List Int × Unit) × Unit) | 0 => (fun x0 x1 x2 => none) | m + 1 => (fun x0 x1 x2 => laws_toIntS_b0 D n (laws_toIntS_L0 D n K0 m) K0 x0 x1 x2)
noncomputable def laws_toIntS_x0_0 (D : Den ctx) (n : Nat) (v0_0 : List Int) : Option ((List Int × Unit) × Unit) := some ((v0_0, ()), ())
noncomputable def laws_toIntS_LP0 (D : Den ctx) (n : Nat) : (List Int) → (Int) → (List Int) → Option ((List Int × Unit) × Unit) := (fun x0 x1 x2 => laws_toIntS_L0 D n (fun v0_0 => laws_toIntS_x0_0 D n v0_0) n x0 x1 x2)
noncomputable def laws_toIntS_e (D : Den ctx) (n : Nat) (lp0 : List Int → Int → List Int → Option ((List Int × Unit) × Unit)) (a0 : List Int) : Option ((List Int × Unit) × Unit) := br (decide (0 ≤ (↑(List.length a0) : Int)) && decide ((↑(List.length a0) : Int) ≤ (↑(List.length a0) : Int)) && decide ((↑(List.length a0) : Int) ≤ (↑bound : Int))) (lp0 a0 0 (List.replicate (Int.toNat (↑(List.length a0) : Int)) 0)) none
noncomputable def F_laws_toIntS (D : Den ctx) (n : Nat) (a0 : List Int) : Option ((List Int × Unit) × Unit) := laws_toIntS_e D n (laws_toIntS_LP0 D n) a0
def laws_toIntS_Q0 (x0 : List Int) (x1 : Int) (x2 : List Int) : St := stq 22 [(0, AV.val (Ty.sl (Ty.int IntKind.i64)) x0), (3, AV.brw 3 [] 0), (4, AV.val (Ty.int IntKind.i64) x1)] [(3, Root.mk (Ty.sl (Ty.int IntKind.i64)) (Mk.own 0 Mk.no) x2 false)]
def laws_toIntS_Q0_0 (v0_0 : List Int) : St := stq 22 [(3, AV.brw 3 [] 0)] [(3, Root.mk (Ty.sl (Ty.int IntKind.i64)) (Mk.own 0 Mk.no) v0_0 false)]
theorem laws_toIntS_SB0 (D : Den ctx) (n : Nat) (m : Nat) (K : Ex → St → Option (Out ctx 81)) (x0 : List Int) (x1 : Int) (x2 : List Int) :
  LQ funcTab D n 81 [.r, .r, .l, .r, .l] (m + 1) (laws_toIntS_Q0 x0 x1 x2) K = laws_toIntS_b0 D n (fun x0 x1 x2 => LQ funcTab D n 81 [.r, .r, .l, .r, .l] m (laws_toIntS_Q0 x0 x1 x2) K) (fun v0_0 => K (Ex.exit 0) (laws_toIntS_Q0_0 v0_0)) x0 x1 x2 := by kernel_rfl
theorem laws_toIntS_EL0 (D : Den ctx) (n : Nat) (K : Ex → St → Option (Out ctx 81)) : ∀ (m : Nat) (x0 : List Int) (x1 : Int) (x2 : List Int), LQ funcTab D n 81 [.r, .r, .l, .r, .l] m (laws_toIntS_Q0 x0 x1 x2) K = laws_toIntS_L0 D n (fun v0_0 => K (Ex.exit 0) (laws_toIntS_Q0_0 v0_0)) m x0 x1 x2
  | 0, x0, x1, x2 => LQ_zero ..
  | m + 1, x0, x1, x2 => by
    have ih : (fun x0 x1 x2 => LQ funcTab D n 81 [.r, .r, .l, .r, .l] m (laws_toIntS_Q0 x0 x1 x2) K) = laws_toIntS_L0 D n (fun v0_0 => K (Ex.exit 0) (laws_toIntS_Q0_0 v0_0)) m := by funext x0 x1 x2; exact laws_toIntS_EL0 D n K m x0 x1 x2
    rw [laws_toIntS_SB0]
    rw [ih]; rfl
theorem laws_toIntS_X0_0 (D : Den ctx) (n : Nat) (v0_0 : List Int) :
  (CQ funcTab D n 81 [] [.r, .r, .l, .r, .l] (lastK funcTab 81)) (Ex.exit 0) (laws_toIntS_Q0_0 v0_0) = laws_toIntS_x0_0 D n v0_0 := by kernel_rfl
theorem laws_toIntS_ELP0 (D : Den ctx) (n : Nat) (x0 : List Int) (x1 : Int) (x2 : List Int) :
  LQ funcTab D n 81 [.r, .r, .l, .r, .l] n (laws_toIntS_Q0 x0 x1 x2) (CQ funcTab D n 81 [] [.r, .r, .l, .r, .l] (lastK funcTab 81)) = laws_toIntS_LP0 D n x0 x1 x2 := by
  rw [laws_toIntS_EL0]
  simp only [laws_toIntS_X0_0]
  rfl
theorem E_laws_toIntS (D : Den ctx) (n : Nat) (a0 : List Int) : rfC funcTab D n 81 (a0, ()) = F_laws_toIntS D n a0 := by
  have h : rfC funcTab D n 81 (a0, ()) = laws_toIntS_e D n (fun x0 x1 x2 => LQ funcTab D n 81 [.r, .r, .l, .r, .l] n (laws_toIntS_Q0 x0 x1 x2) (CQ funcTab D n 81 [] [.r, .r, .l, .r, .l] (lastK funcTab 81))) a0 := by kernel_rfl
  rw [h]
  simp only [laws_toIntS_ELP0]
  rfl
end Go.G

namespace Go.G
set_option maxRecDepth 100000
set_option maxHeartbeats 0
open Go Go.V
noncomputable def laws_toLaneS_b0 (D : Den ctx) (n : Nat) (go : List (ByteArray × List Int × Unit) → Int → List (ByteArray × List Int × Unit) → Option ((List (ByteArray × List Int × Unit) × Unit) × Unit)) (K0 : List (ByteArray × List Int × Unit) → Option ((List (ByteArray × List Int × Unit) × Unit) × Unit)) (x0 : List (ByteArray × List Int × Unit)) (x1 : Int) (x2 : List (ByteArray × List Int × Unit)) : Option ((List (ByteArray × List Int × Unit) × Unit) × Unit) := br (decide (x1 < (↑(List.length x0) : Int))) (br (decide (0 ≤ x1) && decide (x1 < (↑(List.length x0) : Int))) (bindD (C_laws_toLane D (List.getD x0 (Int.toNat x1) (ByteArray.empty, [], ()))) fun b ↦ br (decide (0 ≤ x1) && decide (x1 < (↑(List.length x2) : Int))) (go x0 (IntKind.wrap IntKind.i64 (x1 + 1)) (List.set x2 (Int.toNat x1) (Prod.fst (Prod.fst (Prod.fst b)), Prod.fst (Prod.snd (Prod.fst (Prod.fst b))), ()))) none) none) (K0 x2)
noncomputable def laws_toLaneS_L0 (D : Den ctx) (n : Nat) (K0 : List (ByteArray × List Int × Unit) → Option ((List (ByteArray × List Int × Unit) × Unit) × Unit)) : Nat → (List (ByteArray × List Int × Unit)) → (Int) → (List (ByteArray × List Int × Unit)) → Option ((List (ByteArray × List Int × Unit) × Unit) × Unit) | 0 => (fun x0 x1 x2 => none) | m + 1 => (fun x0 x1 x2 => laws_toLaneS_b0 D n (laws_toLaneS_L0 D n K0 m) K0 x0 x1 x2)
noncomputable def laws_toLaneS_x0_0 (D : Den ctx) (n : Nat) (v0_0 : List (ByteArray × List Int × Unit)) : Option ((List (ByteArray × List Int × Unit) × Unit) × Unit) := some ((v0_0, ()), ())
noncomputable def laws_toLaneS_LP0 (D : Den ctx) (n : Nat) : (List (ByteArray × List Int × Unit)) → (Int) → (List (ByteArray × List Int × Unit)) → Option ((List (ByteArray × List Int × Unit) × Unit) × Unit) := (fun x0 x1 x2 => laws_toLaneS_L0 D n (fun v0_0 => laws_toLaneS_x0_0 D n v0_0) n x0 x1 x2)
noncomputable def laws_toLaneS_e (D : Den ctx) (n : Nat) (lp0 : List (ByteArray × List Int × Unit) → Int → List (ByteArray × List Int × Unit) → Option ((List (ByteArray × List Int × Unit) × Unit) × Unit)) (a0 : List (ByteArray × List Int × Unit)) : Option ((List (ByteArray × List Int × Unit) × Unit) × Unit) := br (decide (0 ≤ (↑(List.length a0) : Int)) && decide ((↑(List.length a0) : Int) ≤ (↑(List.length a0) : Int)) && decide ((↑(List.length a0) : Int) ≤ (↑bound : Int))) (lp0 a0 0 (List.replicate (Int.toNat (↑(List.length a0) : Int)) (ByteArray.empty, [], ()))) none
noncomputable def F_laws_toLaneS (D : Den ctx) (n : Nat) (a0 : List (ByteArray × List Int × Unit)) : Option ((List (ByteArray × List Int × Unit) × Unit) × Unit) := laws_toLaneS_e D n (laws_toLaneS_LP0 D n) a0
def laws_toLaneS_Q0 (x0 : List (ByteArray × List Int × Unit)) (x1 : Int) (x2 : List (ByteArray × List Int × Unit)) : St := stq 23 [(0, AV.val (Ty.sl (Ty.pair Ty.str (Ty.pair (Ty.sl (Ty.int IntKind.i64)) Ty.unit))) x0), (3, AV.brw 3 [] 0), (4, AV.val (Ty.int IntKind.i64) x1)] [(3, Root.mk (Ty.sl (Ty.pair Ty.str (Ty.pair (Ty.sl (Ty.int IntKind.i64)) Ty.unit))) (Mk.own 0 (Mk.pr Mk.no (Mk.pr (Mk.own 0 Mk.no) Mk.no))) x2 false)]
def laws_toLaneS_Q0_0 (v0_0 : List (ByteArray × List Int × Unit)) : St := stq 23 [(3, AV.brw 3 [] 0)] [(3, Root.mk (Ty.sl (Ty.pair Ty.str (Ty.pair (Ty.sl (Ty.int IntKind.i64)) Ty.unit))) (Mk.own 0 (Mk.pr Mk.no (Mk.pr (Mk.own 0 Mk.no) Mk.no))) v0_0 false)]
theorem laws_toLaneS_SB0 (D : Den ctx) (n : Nat) (m : Nat) (K : Ex → St → Option (Out ctx 82)) (x0 : List (ByteArray × List Int × Unit)) (x1 : Int) (x2 : List (ByteArray × List Int × Unit)) :
  LQ funcTab D n 82 [.r, .r, .l, .r, .l] (m + 1) (laws_toLaneS_Q0 x0 x1 x2) K = laws_toLaneS_b0 D n (fun x0 x1 x2 => LQ funcTab D n 82 [.r, .r, .l, .r, .l] m (laws_toLaneS_Q0 x0 x1 x2) K) (fun v0_0 => K (Ex.exit 0) (laws_toLaneS_Q0_0 v0_0)) x0 x1 x2 := by kernel_rfl
theorem laws_toLaneS_EL0 (D : Den ctx) (n : Nat) (K : Ex → St → Option (Out ctx 82)) : ∀ (m : Nat) (x0 : List (ByteArray × List Int × Unit)) (x1 : Int) (x2 : List (ByteArray × List Int × Unit)), LQ funcTab D n 82 [.r, .r, .l, .r, .l] m (laws_toLaneS_Q0 x0 x1 x2) K = laws_toLaneS_L0 D n (fun v0_0 => K (Ex.exit 0) (laws_toLaneS_Q0_0 v0_0)) m x0 x1 x2
  | 0, x0, x1, x2 => LQ_zero ..
  | m + 1, x0, x1, x2 => by
    have ih : (fun x0 x1 x2 => LQ funcTab D n 82 [.r, .r, .l, .r, .l] m (laws_toLaneS_Q0 x0 x1 x2) K) = laws_toLaneS_L0 D n (fun v0_0 => K (Ex.exit 0) (laws_toLaneS_Q0_0 v0_0)) m := by funext x0 x1 x2; exact laws_toLaneS_EL0 D n K m x0 x1 x2
    rw [laws_toLaneS_SB0]
    rw [ih]; rfl
theorem laws_toLaneS_X0_0 (D : Den ctx) (n : Nat) (v0_0 : List (ByteArray × List Int × Unit)) :
  (CQ funcTab D n 82 [] [.r, .r, .l, .r, .l] (lastK funcTab 82)) (Ex.exit 0) (laws_toLaneS_Q0_0 v0_0) = laws_toLaneS_x0_0 D n v0_0 := by kernel_rfl
theorem laws_toLaneS_ELP0 (D : Den ctx) (n : Nat) (x0 : List (ByteArray × List Int × Unit)) (x1 : Int) (x2 : List (ByteArray × List Int × Unit)) :
  LQ funcTab D n 82 [.r, .r, .l, .r, .l] n (laws_toLaneS_Q0 x0 x1 x2) (CQ funcTab D n 82 [] [.r, .r, .l, .r, .l] (lastK funcTab 82)) = laws_toLaneS_LP0 D n x0 x1 x2 := by
  rw [laws_toLaneS_EL0]
  simp only [laws_toLaneS_X0_0]
  rfl
theorem E_laws_toLaneS (D : Den ctx) (n : Nat) (a0 : List (ByteArray × List Int × Unit)) : rfC funcTab D n 82 (a0, ()) = F_laws_toLaneS D n a0 := by
  have h : rfC funcTab D n 82 (a0, ()) = laws_toLaneS_e D n (fun x0 x1 x2 => LQ funcTab D n 82 [.r, .r, .l, .r, .l] n (laws_toLaneS_Q0 x0 x1 x2) (CQ funcTab D n 82 [] [.r, .r, .l, .r, .l] (lastK funcTab 82))) a0 := by kernel_rfl
  rw [h]
  simp only [laws_toLaneS_ELP0]
  rfl
end Go.G

namespace Go.G
set_option maxRecDepth 100000
set_option maxHeartbeats 0
open Go Go.V
noncomputable def impl_laneOf_b0 (D : Den ctx) (n : Nat) (go : Int → Int → List Int × List (ByteArray × List Int × Unit) × Unit → List Int → Option ((List Int × Bool × Unit) × Unit)) (K0 : Bool → List Int → Option ((List Int × Bool × Unit) × Unit)) (K1 : List Int → Option ((List Int × Bool × Unit) × Unit)) (x0 : Int) (x1 : Int) (x2 : List Int × List (ByteArray × List Int × Unit) × Unit) (x3 : List Int) : Option ((List Int × Bool × Unit) × Unit) := br (x1 != -1) (bindD (C_impl_from D x1 0 (IntKind.wrap IntKind.i64 ((↑(List.length (Prod.fst (Prod.snd x2))) : Int) - 1))) fun b ↦ br (!Prod.fst (Prod.fst b)) (K0 false x3) (br (decide (0 ≤ x1) && decide (x1 < (↑(List.length (Prod.fst (Prod.snd x2))) : Int))) (br (decide (x0 ≥ (↑(List.length (Prod.fst (Prod.snd (List.getD (Prod.fst (Prod.snd x2)) (Int.toNat x1) (ByteArray.empty, [], ()))))) : Int))) (K0 false x3) (br (decide ((↑(List.length x3) : Int) > 0)) (br (decide (0 ≤ IntKind.wrap IntKind.i64 ((↑(List.length x3) : Int) - 1)) && decide (IntKind.wrap IntKind.i64 ((↑(List.length x3) : Int) - 1) < (↑(List.length x3) : Int))) (br (decide (0 ≤ List.getD x3 (Int.toNat (IntKind.wrap IntKind.i64 ((↑(List.length x3) : Int) - 1))) 0) && decide (List.getD x3 (Int.toNat (IntKind.wrap IntKind.i64 ((↑(List.length x3) : Int) - 1))) 0 < (↑(List.length (Prod.fst (Prod.snd x2))) : Int))) (br (decide (0 ≤ x1) && decide (x1 < (↑(List.length (Prod.fst (Prod.snd x2))) : Int))) (br (!Op.bytesLess (ByteArray.toList (Prod.fst (List.getD (Prod.fst (Prod.snd x2)) (Int.toNat (List.getD x3 (Int.toNat (IntKind.wrap IntKind.i64 ((↑(List.length x3) : Int) - 1))) 0)) (ByteArray.empty, [], ())))) (ByteArray.toList (Prod.fst (List.getD (Prod.fst (Prod.snd x2)) (Int.toNat x1) (ByteArray.empty, [], ()))))) (K0 false x3) (br (decide (List.length x3 + 1 ≤ bound)) (br (decide (0 ≤ x1) && decide (x1 < (↑(List.length (Prod.fst (Prod.snd x2))) : Int))) (br (decide (0 ≤ x0) && decide (x0 < (↑(List.length (Prod.fst (Prod.snd (List.getD (Prod.fst (Prod.snd x2)) (Int.toNat x1) (ByteArray.empty, [], ()))))) : Int))) (go x0 (List.getD (Prod.fst (Prod.snd (List.getD (Prod.fst (Prod.snd x2)) (Int.toNat x1) (ByteArray.empty, [], ())))) (Int.toNat x0) 0) x2 (x3 ++ [x1])) none) none) none)) none) none) none) (br (decide (List.length x3 + 1 ≤ bound)) (br (decide (0 ≤ x1) && decide (x1 < (↑(List.length (Prod.fst (Prod.snd x2))) : Int))) (br (decide (0 ≤ x0) && decide (x0 < (↑(List.length (Prod.fst (Prod.snd (List.getD (Prod.fst (Prod.snd x2)) (Int.toNat x1) (ByteArray.empty, [], ()))))) : Int))) (go x0 (List.getD (Prod.fst (Prod.snd (List.getD (Prod.fst (Prod.snd x2)) (Int.toNat x1) (ByteArray.empty, [], ())))) (Int.toNat x0) 0) x2 (x3 ++ [x1])) none) none) none))) none)) (K1 x3)
noncomputable def impl_laneOf_L0 (D : Den ctx) (n : Nat) (K0 : Bool → List Int → Option ((List Int × Bool × Unit) × Unit)) (K1 : List Int → Option ((List Int × Bool × Unit) × Unit)) : Nat → (Int) → (Int) → (List Int × List (ByteArray × List Int × Unit) × Unit) → (List Int) → Option ((List Int × Bool × Unit) × Unit) | 0 => (fun x0 x1 x2 x3 => none) | m + 1 => (fun x0 x1 x2 x3 => impl_laneOf_b0 D n (impl_laneOf_L0 D n K0 K1 m) K0 K1 x0 x1 x2 x3)
noncomputable def impl_laneOf_x0_0 (D : Den ctx) (n : Nat) (v0_0 : Bool) (v0_1 : List Int) : Option ((List Int × Bool × Unit) × Unit) := some (([], v0_0, ()), ())
noncomputable def impl_laneOf_x0_1 (D : Den ctx) (n : Nat) (v1_0 : List Int) : Option ((List Int × Bool × Unit) × Unit) := some ((v1_0, true, ()), ())
noncomputable def impl_laneOf_LP0 (D : Den ctx) (n : Nat) : (Int) → (Int) → (List Int × List (ByteArray × List Int × Unit) × Unit) → (List Int) → Option ((List Int × Bool × Unit) × Unit) := (fun x0 x1 x2 x3 => impl_laneOf_L0 D n (fun v0_0 v0_1 => impl_laneOf_x0_0 D n v0_0 v0_1) (fun v1_0 => impl_laneOf_x0_1 D n v1_0) n x0 x1 x2 x3)
noncomputable def impl_laneOf_e (D : Den ctx) (n : Nat) (lp0 : Int → Int → List Int × List (ByteArray × List Int × Unit) × Unit → List Int → Option ((List Int × Bool × Unit) × Unit)) (a0 : List Int × List (ByteArray × List Int × Unit) × Unit) (a1 : Int) : Option ((List Int × Bool × Unit) × Unit) := br (decide (0 ≤ a1) && decide (a1 < (↑(List.length (Prod.fst a0)) : Int))) (lp0 a1 (List.getD (Prod.fst a0) (Int.toNat a1) 0) a0 []) none
noncomputable def F_impl_laneOf (D : Den ctx) (n : Nat) (a0 : List Int × List (ByteArray × List Int × Unit) × Unit) (a1 : Int) : Option ((List Int × Bool × Unit) × Unit) := impl_laneOf_e D n (impl_laneOf_LP0 D n) a0 a1
def impl_laneOf_Q0 (x0 : Int) (x1 : Int) (x2 : List Int × List (ByteArray × List Int × Unit) × Unit) (x3 : List Int) : St := stq 73 [(1, AV.val (Ty.int IntKind.i64) x0), (2, AV.addr 2 []), (6, AV.brw 6 [] 0), (7, AV.val (Ty.int IntKind.i64) x1)] [(2, Root.mk (Ty.pair (Ty.sl (Ty.int IntKind.i64)) (Ty.pair (Ty.sl (Ty.pair Ty.str (Ty.pair (Ty.sl (Ty.int IntKind.i64)) Ty.unit))) Ty.unit)) Mk.no x2 true), (6, Root.mk (Ty.sl (Ty.int IntKind.i64)) (Mk.own 0 Mk.no) x3 false)]
def impl_laneOf_Q0_0 (v0_0 : Bool) (v0_1 : List Int) : St := stq 73 [(4, AV.nils), (5, AV.val Ty.bool v0_0), (6, AV.brw 6 [] 0)] [(6, Root.mk (Ty.sl (Ty.int IntKind.i64)) (Mk.own 0 Mk.no) v0_1 false)]
def impl_laneOf_Q0_1 (v1_0 : List Int) : St := stq 73 [(6, AV.brw 6 [] 0)] [(6, Root.mk (Ty.sl (Ty.int IntKind.i64)) (Mk.own 0 Mk.no) v1_0 false)]
theorem impl_laneOf_SB0 (D : Den ctx) (n : Nat) (m : Nat) (K : Ex → St → Option (Out ctx 83)) (x0 : Int) (x1 : Int) (x2 : List Int × List (ByteArray × List Int × Unit) × Unit) (x3 : List Int) :
  LQ funcTab D n 83 [.r, .r, .l, .r, .l] (m + 1) (impl_laneOf_Q0 x0 x1 x2 x3) K = impl_laneOf_b0 D n (fun x0 x1 x2 x3 => LQ funcTab D n 83 [.r, .r, .l, .r, .l] m (impl_laneOf_Q0 x0 x1 x2 x3) K) (fun v0_0 v0_1 => K (Ex.ret) (impl_laneOf_Q0_0 v0_0 v0_1)) (fun v1_0 => K (Ex.exit 0) (impl_laneOf_Q0_1 v1_0)) x0 x1 x2 x3 := by kernel_rfl
theorem impl_laneOf_EL0 (D : Den ctx) (n : Nat) (K : Ex → St → Option (Out ctx 83)) : ∀ (m : Nat) (x0 : Int) (x1 : Int) (x2 : List Int × List (ByteArray × List Int × Unit) × Unit) (x3 : List Int), LQ funcTab D n 83 [.r, .r, .l, .r, .l] m (impl_laneOf_Q0 x0 x1 x2 x3) K = impl_laneOf_L0 D n (fun v0_0 v0_1 => K (Ex.ret) (impl_laneOf_Q0_0 v0_0 v0_1)) (fun v1_0 => K (Ex.exit 0) (impl_laneOf_Q0_1 v1_0)) m x0 x1 x2 x3
  | 0, x0, x1, x2, x3 => LQ_zero ..
  | m + 1, x0, x1, x2, x3 => by
    have ih : (fun x0 x1 x2 x3 => LQ funcTab D n 83 [.r, .r, .l, .r, .l] m (impl_laneOf_Q0 x0 x1 x2 x3) K) = impl_laneOf_L0 D n (fun v0_0 v0_1 => K (Ex.ret) (impl_laneOf_Q0_0 v0_0 v0_1)) (fun v1_0 => K (Ex.exit 0) (impl_laneOf_Q0_1 v1_0)) m := by funext x0 x1 x2 x3; exact impl_laneOf_EL0 D n K m x0 x1 x2 x3
    rw [impl_laneOf_SB0]
    rw [ih]; rfl
theorem impl_laneOf_X0_0 (D : Den ctx) (n : Nat) (v0_0 : Bool) (v0_1 : List Int) :
  (CQ funcTab D n 83 [] [.r, .r, .l, .r, .l] (lastK funcTab 83)) (Ex.ret) (impl_laneOf_Q0_0 v0_0 v0_1) = impl_laneOf_x0_0 D n v0_0 v0_1 := by kernel_rfl
theorem impl_laneOf_X0_1 (D : Den ctx) (n : Nat) (v1_0 : List Int) :
  (CQ funcTab D n 83 [] [.r, .r, .l, .r, .l] (lastK funcTab 83)) (Ex.exit 0) (impl_laneOf_Q0_1 v1_0) = impl_laneOf_x0_1 D n v1_0 := by kernel_rfl
theorem impl_laneOf_ELP0 (D : Den ctx) (n : Nat) (x0 : Int) (x1 : Int) (x2 : List Int × List (ByteArray × List Int × Unit) × Unit) (x3 : List Int) :
  LQ funcTab D n 83 [.r, .r, .l, .r, .l] n (impl_laneOf_Q0 x0 x1 x2 x3) (CQ funcTab D n 83 [] [.r, .r, .l, .r, .l] (lastK funcTab 83)) = impl_laneOf_LP0 D n x0 x1 x2 x3 := by
  rw [impl_laneOf_EL0]
  simp only [impl_laneOf_X0_0, impl_laneOf_X0_1]
  rfl
theorem E_impl_laneOf (D : Den ctx) (n : Nat) (a0 : List Int × List (ByteArray × List Int × Unit) × Unit) (a1 : Int) : rfC funcTab D n 83 (a0, (a1, ())) = F_impl_laneOf D n a0 a1 := by
  have h : rfC funcTab D n 83 (a0, (a1, ())) = impl_laneOf_e D n (fun x0 x1 x2 x3 => LQ funcTab D n 83 [.r, .r, .l, .r, .l] n (impl_laneOf_Q0 x0 x1 x2 x3) (CQ funcTab D n 83 [] [.r, .r, .l, .r, .l] (lastK funcTab 83))) a0 a1 := by kernel_rfl
  rw [h]
  simp only [impl_laneOf_ELP0]
  rfl
end Go.G

namespace Go.G
set_option maxRecDepth 100000
set_option maxHeartbeats 0
open Go Go.V
noncomputable def spec_l20Draw_e (D : Den ctx) (n : Nat) (a0 : List Int × Int × Int × Unit) : Option (((List Int × List (ByteArray × List Int × Unit) × Unit) × Unit) × (List Int × Int × Int × Unit) × Unit) := bindD (C_spec_l20DrawRight D a0) fun b ↦ bindD (C_spec_l1Below D (Prod.fst (Prod.snd b)) 10) fun b_1 ↦ br (decide (Prod.fst (Prod.fst b_1) = 0)) (bindD (C_spec_l1Below D (Prod.fst (Prod.snd b_1)) 4) fun b_2 ↦ bindD (C_spec_l1Below D (Prod.fst (Prod.snd b_2)) 6) fun b_3 ↦ br (decide (0 ≤ Prod.fst (Prod.fst b_2)) && decide (Prod.fst (Prod.fst b_2) < (↑(List.length (Prod.fst (Prod.fst (Prod.fst b)))) : Int))) (some (((List.set (Prod.fst (Prod.fst (Prod.fst b))) (Int.toNat (Prod.fst (Prod.fst b_2))) (IntKind.wrap IntKind.i64 (Prod.fst (Prod.fst b_3) - 2)), Prod.fst (Prod.snd (Prod.fst (Prod.fst b))), ()), ()), Prod.fst (Prod.snd b_3), ())) none) (br (decide (Prod.fst (Prod.fst b_1) = 1)) (br (decide ((↑(List.length (Prod.fst (Prod.snd (Prod.fst (Prod.fst b))))) : Int) > 0)) (br (decide (0 ≤ 0) && decide (0 < (↑(List.length (Prod.fst (Prod.snd (Prod.fst (Prod.fst b))))) : Int))) (br (decide (List.length (Prod.fst (Prod.snd (List.getD (Prod.fst (Prod.snd (Prod.fst (Prod.fst b)))) 0 (ByteArray.empty, [], ())))) + 1 ≤ bound)) (br (decide (0 ≤ 0) && decide (0 < (↑(List.length (List.set (Prod.fst (Prod.snd (Prod.fst (Prod.fst b)))) 0 (Prod.fst (List.getD (Prod.fst (Prod.snd (Prod.fst (Prod.fst b)))) 0 (ByteArray.empty, [], ())), Prod.fst (Prod.snd (List.getD (Prod.fst (Prod.snd (Prod.fst (Prod.fst b)))) 0 (ByteArray.empty, [], ()))), Prod.snd (Prod.snd (List.getD (Prod.fst (Prod.snd (Prod.fst (Prod.fst b)))) 0 (ByteArray.empty, [], ())))))) : Int))) (some (((Prod.fst (Prod.fst (Prod.fst b)), List.set (List.set (Prod.fst (Prod.snd (Prod.fst (Prod.fst b)))) 0 (Prod.fst (List.getD (Prod.fst (Prod.snd (Prod.fst (Prod.fst b)))) 0 (ByteArray.empty, [], ())), Prod.fst (Prod.snd (List.getD (Prod.fst (Prod.snd (Prod.fst (Prod.fst b)))) 0 (ByteArray.empty, [], ()))), Prod.snd (Prod.snd (List.getD (Prod.fst (Prod.snd (Prod.fst (Prod.fst b)))) 0 (ByteArray.empty, [], ()))))) 0 (Prod.fst (List.getD (List.set (Prod.fst (Prod.snd (Prod.fst (Prod.fst b)))) 0 (Prod.fst (List.getD (Prod.fst (Prod.snd (Prod.fst (Prod.fst b)))) 0 (ByteArray.empty, [], ())), Prod.fst (Prod.snd (List.getD (Prod.fst (Prod.snd (Prod.fst (Prod.fst b)))) 0 (ByteArray.empty, [], ()))), Prod.snd (Prod.snd (List.getD (Prod.fst (Prod.snd (Prod.fst (Prod.fst b)))) 0 (ByteArray.empty, [], ()))))) 0 (ByteArray.empty, [], ())), Prod.fst (Prod.snd (List.getD (Prod.fst (Prod.snd (Prod.fst (Prod.fst b)))) 0 (ByteArray.empty, [], ()))) ++ [-1], Prod.snd (Prod.snd (List.getD (List.set (Prod.fst (Prod.snd (Prod.fst (Prod.fst b)))) 0 (Prod.fst (List.getD (Prod.fst (Prod.snd (Prod.fst (Prod.fst b)))) 0 (ByteArray.empty, [], ())), Prod.fst (Prod.snd (List.getD (Prod.fst (Prod.snd (Prod.fst (Prod.fst b)))) 0 (ByteArray.empty, [], ()))), Prod.snd (Prod.snd (List.getD (Prod.fst (Prod.snd (Prod.fst (Prod.fst b)))) 0 (ByteArray.empty, [], ()))))) 0 (ByteArray.empty, [], ())))), ()), ()), Prod.fst (Prod.snd b_1), ())) none) none) none) (some (((Prod.fst (Prod.fst (Prod.fst b)), Prod.fst (Prod.snd (Prod.fst (Prod.fst b))), ()), ()), Prod.fst (Prod.snd b_1), ()))) (br (decide (Prod.fst (Prod.fst b_1) = 2)) (br (decide ((↑(List.length (Prod.fst (Prod.snd (Prod.fst (Prod.fst b))))) : Int) > 0)) (bindD (C_spec_l1Below D (Prod.fst (Prod.snd b_1)) (↑(List.length (Prod.fst (Prod.snd (Prod.fst (Prod.fst b))))) : Int)) fun b_2 ↦ br (decide (0 ≤ Prod.fst (Prod.fst b_2)) && decide (Prod.fst (Prod.fst b_2) < (↑(List.length (Prod.fst (Prod.snd (Prod.fst (Prod.fst b))))) : Int))) (some (((Prod.fst (Prod.fst (Prod.fst b)), List.set (Prod.fst (Prod.snd (Prod.fst (Prod.fst b)))) (Int.toNat (Prod.fst (Prod.fst b_2))) (ByteArray.mk #[UInt8.ofNat 122, UInt8.ofNat 122], Prod.snd (List.getD (Prod.fst (Prod.snd (Prod.fst (Prod.fst b)))) (Int.toNat (Prod.fst (Prod.fst b_2))) (ByteArray.empty, [], ()))), ()), ()), Prod.fst (Prod.snd b_2), ())) none) (some (((Prod.fst (Prod.fst (Prod.fst b)), Prod.fst (Prod.snd (Prod.fst (Prod.fst b))), ()), ()), Prod.fst (Prod.snd b_1), ()))) (some (((Prod.fst (Prod.fst (Prod.fst b)), Prod.fst (Prod.snd (Prod.fst (Prod.fst b))), ()), ()), Prod.fst (Prod.snd b_1), ()))))
noncomputable def F_spec_l20Draw (D : Den ctx) (n : Nat) (a0 : List Int × Int × Int × Unit) : Option (((List Int × List (ByteArray × List Int × Unit) × Unit) × Unit) × (List Int × Int × Int × Unit) × Unit) := spec_l20Draw_e D n a0
theorem E_spec_l20Draw (D : Den ctx) (n : Nat) (a0 : List Int × Int × Int × Unit) : rfC funcTab D n 87 (a0, ()) = F_spec_l20Draw D n a0 := by kernel_rfl
end Go.G

namespace Go.G
set_option maxRecDepth 100000
set_option maxHeartbeats 0
open Go Go.V
noncomputable def spec_l20Next_e (D : Den ctx) (n : Nat) (a0 : List Int × List (ByteArray × List Int × Unit) × Unit) (a1 : Int) (a2 : Int) : Option ((Int × Unit) × Unit) := br (decide (a1 < 0)) (br (decide (0 ≤ a2) && decide (a2 < (↑(List.length (Prod.fst a0)) : Int))) (some ((List.getD (Prod.fst a0) (Int.toNat a2) 0, ()), ())) none) (br (decide (0 ≤ a1) && decide (a1 < (↑(List.length (Prod.fst (Prod.snd a0))) : Int))) (br (decide (0 ≤ a2) && decide (a2 < (↑(List.length (Prod.fst (Prod.snd (List.getD (Prod.fst (Prod.snd a0)) (Int.toNat a1) (ByteArray.empty, [], ()))))) : Int))) (some ((List.getD (Prod.fst (Prod.snd (List.getD (Prod.fst (Prod.snd a0)) (Int.toNat a1) (ByteArray.empty, [], ())))) (Int.toNat a2) 0, ()), ())) none) none)
noncomputable def F_spec_l20Next (D : Den ctx) (n : Nat) (a0 : List Int × List (ByteArray × List Int × Unit) × Unit) (a1 : Int) (a2 : Int) : Option ((Int × Unit) × Unit) := spec_l20Next_e D n a0 a1 a2
theorem E_spec_l20Next (D : Den ctx) (n : Nat) (a0 : List Int × List (ByteArray × List Int × Unit) × Unit) (a1 : Int) (a2 : Int) : rfC funcTab D n 88 (a0, (a1, (a2, ()))) = F_spec_l20Next D n a0 a1 a2 := by kernel_rfl
end Go.G

namespace Go.G
set_option maxRecDepth 100000
set_option maxHeartbeats 0
open Go Go.V
noncomputable def spec_l20Copy_b0 (D : Den ctx) (n : Nat) (go : Int → List Int × List (ByteArray × List Int × Unit) × Unit → List Int × List (ByteArray × List Int × Unit) × Unit → List Int × List (ByteArray × List Int × Unit) × Unit → Option (((List Int × List (ByteArray × List Int × Unit) × Unit) × Unit) × Unit)) (K0 : List Int × List (ByteArray × List Int × Unit) × Unit → List Int × List (ByteArray × List Int × Unit) × Unit → Option (((List Int × List (ByteArray × List Int × Unit) × Unit) × Unit) × Unit)) (x0 : Int) (x1 : List Int × List (ByteArray × List Int × Unit) × Unit) (x2 : List Int × List (ByteArray × List Int × Unit) × Unit) (x3 : List Int × List (ByteArray × List Int × Unit) × Unit) : Option (((List Int × List (ByteArray × List Int × Unit) × Unit) × Unit) × Unit) := br (decide (x0 < (↑(List.length (Prod.fst (Prod.snd x1))) : Int))) (br (decide (0 ≤ x0) && decide (x0 < (↑(List.length (Prod.fst (Prod.snd x1))) : Int))) (br (decide (0 ≤ x0) && decide (x0 < (↑(List.length (Prod.fst (Prod.snd x1))) : Int))) (br (decide (0 + List.length (Prod.fst (Prod.snd (List.getD (Prod.fst (Prod.snd x1)) (Int.toNat x0) (ByteArray.empty, [], ())))) ≤ bound)) (br (decide (List.length (Prod.fst (Prod.snd x3)) + 1 ≤ bound)) (go (IntKind.wrap IntKind.i64 (x0 + 1)) x1 x2 (Prod.fst x3, Prod.fst (Prod.snd x3) ++ [(Prod.fst (List.getD (Prod.fst (Prod.snd x1)) (Int.toNat x0) (ByteArray.empty, [], ())), [] ++ Prod.fst (Prod.snd (List.getD (Prod.fst (Prod.snd x1)) (Int.toNat x0) (ByteArray.empty, [], ()))), ())], Prod.snd (Prod.snd x3))) none) none) none) none) (K0 x2 x3)
noncomputable def spec_l20Copy_L0 (D : Den ctx) (n : Nat) (K0 : List Int × List (ByteArray × List Int × Unit) × Unit → List Int × List (ByteArray × List Int × Unit) × Unit → Option (((List Int × List (ByteArray × List Int × Unit) × Unit) × Unit) × Unit)) : Nat → (Int) → (List Int × List (ByteArray × List Int × Unit) × Unit) → (List Int × List (ByteArray × List Int × Unit) × Unit) → (List Int × List (ByteArray × List Int × Unit) × Unit) → Option (((List Int × List (ByteArray × List Int × Unit) × Unit) × Unit) × Unit) | 0 => (fun x0 x1 x2 x3 => none) | m + 1 => (fun x0 x1 x2 x3 => spec_l20Copy_b0 D n (spec_l20Copy_L0 D n K0 m) K0 x0 x1 x2 x3)
noncomputable def spec_l20Copy_x0_0 (D : Den ctx) (n : Nat) (v0_0 : List Int × List (ByteArray × List Int × Unit) × Unit) (v0_1 : List Int × List (ByteArray × List Int × Unit) × Unit) : Option (((List Int × List (ByteArray × List Int × Unit) × Unit) × Unit) × Unit) := some (((Prod.fst v0_1, Prod.fst (Prod.snd v0_1), ()), ()), ())
noncomputable def spec_l20Copy_LP0 (D : Den ctx) (n : Nat) : (Int) → (List Int × List (ByteArray × List Int × Unit) × Unit) → (List Int × List (ByteArray × List Int × Unit) × Unit) → (List Int × List (ByteArray × List Int × Unit) × Unit) → Option (((List Int × List (ByteArray × List Int × Unit) × Unit) × Unit) × Unit) := (fun x0 x1 x2 x3 => spec_l20Copy_L0 D n (fun v0_0 v0_1 => spec_l20Copy_x0_0 D n v0_0 v0_1) n x0 x1 x2 x3)
noncomputable def spec_l20Copy_e (D : Den ctx) (n : Nat) (lp0 : Int → List Int × List (ByteArray × List Int × Unit) × Unit → List Int × List (ByteArray × List Int × Unit) × Unit → List Int × List (ByteArray × List Int × Unit) × Unit → Option (((List Int × List (ByteArray × List Int × Unit) × Unit) × Unit) × Unit)) (a0 : List Int × List (ByteArray × List Int × Unit) × Unit) : Option (((List Int × List (ByteArray × List Int × Unit) × Unit) × Unit) × Unit) := br (decide (0 + List.length (Prod.fst a0) ≤ bound)) (lp0 0 a0 ([], [], ()) ([] ++ Prod.fst a0, [], ())) none
noncomputable def F_spec_l20Copy (D : Den ctx) (n : Nat) (a0 : List Int × List (ByteArray × List Int × Unit) × Unit) : Option (((List Int × List (ByteArray × List Int × Unit) × Unit) × Unit) × Unit) := spec_l20Copy_e D n (spec_l20Copy_LP0 D n) a0
def spec_l20Copy_Q0 (x0 : Int) (x1 : List Int × List (ByteArray × List Int × Unit) × Unit) (x2 : List Int × List (ByteArray × List Int × Unit) × Unit) (x3 : List Int × List (ByteArray × List Int × Unit) × Unit) : St := stq 38 [(1, AV.addr 1 []), (2, AV.addr 2 []), (3, AV.addr 3 []), (4, AV.val (Ty.int IntKind.i64) x0)] [(1, Root.mk (Ty.pair (Ty.sl (Ty.int IntKind.i64)) (Ty.pair (Ty.sl (Ty.pair Ty.str (Ty.pair (Ty.sl (Ty.int IntKind.i64)) Ty.unit))) Ty.unit)) Mk.no x1 true), (2, Root.mk (Ty.pair (Ty.sl (Ty.int IntKind.i64)) (Ty.pair (Ty.sl (Ty.pair Ty.str (Ty.pair (Ty.sl (Ty.int IntKind.i64)) Ty.unit))) Ty.unit)) (Mk.pr (Mk.own 0 Mk.no) (Mk.pr (Mk.own 0 (Mk.pr Mk.no (Mk.pr (Mk.own 0 Mk.no) Mk.no))) Mk.no)) x2 true), (3, Root.mk (Ty.pair (Ty.sl (Ty.int IntKind.i64)) (Ty.pair (Ty.sl (Ty.pair Ty.str (Ty.pair (Ty.sl (Ty.int IntKind.i64)) Ty.unit))) Ty.unit)) (Mk.pr (Mk.own 0 Mk.no) (Mk.pr (Mk.own 0 (Mk.pr Mk.no (Mk.pr (Mk.own 0 Mk.no) Mk.no))) Mk.no)) x3 true)]
def spec_l20Copy_Q0_0 (v0_0 : List Int × List (ByteArray × List Int × Unit) × Unit) (v0_1 : List Int × List (ByteArray × List Int × Unit) × Unit) : St := stq 38 [(2, AV.addr 2 []), (3, AV.addr 3 [])] [(2, Root.mk (Ty.pair (Ty.sl (Ty.int IntKind.i64)) (Ty.pair (Ty.sl (Ty.pair Ty.str (Ty.pair (Ty.sl (Ty.int IntKind.i64)) Ty.unit))) Ty.unit)) (Mk.pr (Mk.own 0 Mk.no) (Mk.pr (Mk.own 0 (Mk.pr Mk.no (Mk.pr (Mk.own 0 Mk.no) Mk.no))) Mk.no)) v0_0 true), (3, Root.mk (Ty.pair (Ty.sl (Ty.int IntKind.i64)) (Ty.pair (Ty.sl (Ty.pair Ty.str (Ty.pair (Ty.sl (Ty.int IntKind.i64)) Ty.unit))) Ty.unit)) (Mk.pr (Mk.own 0 Mk.no) (Mk.pr (Mk.own 0 (Mk.pr Mk.no (Mk.pr (Mk.own 0 Mk.no) Mk.no))) Mk.no)) v0_1 true)]
theorem spec_l20Copy_SB0 (D : Den ctx) (n : Nat) (m : Nat) (K : Ex → St → Option (Out ctx 89)) (x0 : Int) (x1 : List Int × List (ByteArray × List Int × Unit) × Unit) (x2 : List Int × List (ByteArray × List Int × Unit) × Unit) (x3 : List Int × List (ByteArray × List Int × Unit) × Unit) :
  LQ funcTab D n 89 [.r, .r, .l, .r, .l] (m + 1) (spec_l20Copy_Q0 x0 x1 x2 x3) K = spec_l20Copy_b0 D n (fun x0 x1 x2 x3 => LQ funcTab D n 89 [.r, .r, .l, .r, .l] m (spec_l20Copy_Q0 x0 x1 x2 x3) K) (fun v0_0 v0_1 => K (Ex.exit 0) (spec_l20Copy_Q0_0 v0_0 v0_1)) x0 x1 x2 x3 := by kernel_rfl
theorem spec_l20Copy_EL0 (D : Den ctx) (n : Nat) (K : Ex → St → Option (Out ctx 89)) : ∀ (m : Nat) (x0 : Int) (x1 : List Int × List (ByteArray × List Int × Unit) × Unit) (x2 : List Int × List (ByteArray × List Int × Unit) × Unit) (x3 : List Int × List (ByteArray × List Int × Unit) × Unit), LQ funcTab D n 89 [.r, .r, .l, .r, .l] m (spec_l20Copy_Q0 x0 x1 x2 x3) K = spec_l20Copy_L0 D n (fun v0_0 v0_1 => K (Ex.exit 0) (spec_l20Copy_Q0_0 v0_0 v0_1)) m x0 x1 x2 x3
  | 0, x0, x1, x2, x3 => LQ_zero ..
  | m + 1, x0, x1, x2, x3 => by
    have ih : (fun x0 x1 x2 x3 => LQ funcTab D n 89 [.r, .r, .l, .r, .l] m (spec_l20Copy_Q0 x0 x1 x2 x3) K) = spec_l20Copy_L0 D n (fun v0_0 v0_1 => K (Ex.exit 0) (spec_l20Copy_Q0_0 v0_0 v0_1)) m := by funext x0 x1 x2 x3; exact spec_l20Copy_EL0 D n K m x0 x1 x2 x3
    rw [spec_l20Copy_SB0]
    rw [ih]; rfl
theorem spec_l20Copy_X0_0 (D : Den ctx) (n : Nat) (v0_0 : List Int × List (ByteArray × List Int × Unit) × Unit) (v0_1 : List Int × List (ByteArray × List Int × Unit) × Unit) :
  (CQ funcTab D n 89 [] [.r, .r, .l, .r, .l] (lastK funcTab 89)) (Ex.exit 0) (spec_l20Copy_Q0_0 v0_0 v0_1) = spec_l20Copy_x0_0 D n v0_0 v0_1 := by kernel_rfl
theorem spec_l20Copy_ELP0 (D : Den ctx) (n : Nat) (x0 : Int) (x1 : List Int × List (ByteArray × List Int × Unit) × Unit) (x2 : List Int × List (ByteArray × List Int × Unit) × Unit) (x3 : List Int × List (ByteArray × List Int × Unit) × Unit) :
  LQ funcTab D n 89 [.r, .r, .l, .r, .l] n (spec_l20Copy_Q0 x0 x1 x2 x3) (CQ funcTab D n 89 [] [.r, .r, .l, .r, .l] (lastK funcTab 89)) = spec_l20Copy_LP0 D n x0 x1 x2 x3 := by
  rw [spec_l20Copy_EL0]
  simp only [spec_l20Copy_X0_0]
  rfl
theorem E_spec_l20Copy (D : Den ctx) (n : Nat) (a0 : List Int × List (ByteArray × List Int × Unit) × Unit) : rfC funcTab D n 89 (a0, ()) = F_spec_l20Copy D n a0 := by
  have h : rfC funcTab D n 89 (a0, ()) = spec_l20Copy_e D n (fun x0 x1 x2 x3 => LQ funcTab D n 89 [.r, .r, .l, .r, .l] n (spec_l20Copy_Q0 x0 x1 x2 x3) (CQ funcTab D n 89 [] [.r, .r, .l, .r, .l] (lastK funcTab 89))) a0 := by kernel_rfl
  rw [h]
  simp only [spec_l20Copy_ELP0]
  rfl
end Go.G

namespace Go.G
set_option maxRecDepth 100000
set_option maxHeartbeats 0
open Go Go.V
noncomputable def spec_l20Has_b0 (D : Den ctx) (n : Nat) (go : ByteArray → Int → List Int × List (ByteArray × List Int × Unit) × Unit → List Int → Option ((Int × Unit) × Unit)) (K0 : Int → Option ((Int × Unit) × Unit)) (K1 : Option ((Int × Unit) × Unit)) (x0 : ByteArray) (x1 : Int) (x2 : List Int × List (ByteArray × List Int × Unit) × Unit) (x3 : List Int) : Option ((Int × Unit) × Unit) := br (decide (x1 < (↑(List.length x3) : Int))) (br (decide (0 ≤ x1) && decide (x1 < (↑(List.length x3) : Int))) (br (decide (0 ≤ List.getD x3 (Int.toNat x1) 0) && decide (List.getD x3 (Int.toNat x1) 0 < (↑(List.length (Prod.fst (Prod.snd x2))) : Int))) (br (List.beq (ByteArray.toList (Prod.fst (List.getD (Prod.fst (Prod.snd x2)) (Int.toNat (List.getD x3 (Int.toNat x1) 0)) (ByteArray.empty, [], ())))) (ByteArray.toList x0)) (br (decide (0 ≤ x1) && decide (x1 < (↑(List.length x3) : Int))) (K0 (List.getD x3 (Int.toNat x1) 0)) none) (go x0 (IntKind.wrap IntKind.i64 (x1 + 1)) x2 x3)) none) none) K1
noncomputable def spec_l20Has_L0 (D : Den ctx) (n : Nat) (K0 : Int → Option ((Int × Unit) × Unit)) (K1 : Option ((Int × Unit) × Unit)) : Nat → (ByteArray) → (Int) → (List Int × List (ByteArray × List Int × Unit) × Unit) → (List Int) → Option ((Int × Unit) × Unit) | 0 => (fun x0 x1 x2 x3 => none) | m + 1 => (fun x0 x1 x2 x3 => spec_l20Has_b0 D n (spec_l20Has_L0 D n K0 K1 m) K0 K1 x0 x1 x2 x3)
noncomputable def spec_l20Has_x0_0 (D : Den ctx) (n : Nat) (v0_0 : Int) : Option ((Int × Unit) × Unit) := some ((v0_0, ()), ())
noncomputable def spec_l20Has_x0_1 (D : Den ctx) (n : Nat) : Option ((Int × Unit) × Unit) := some ((-1, ()), ())
noncomputable def spec_l20Has_LP0 (D : Den ctx) (n : Nat) : (ByteArray) → (Int) → (List Int × List (ByteArray × List Int × Unit) × Unit) → (List Int) → Option ((Int × Unit) × Unit) := (fun x0 x1 x2 x3 => spec_l20Has_L0 D n (fun v0_0 => spec_l20Has_x0_0 D n v0_0) (spec_l20Has_x0_1 D n) n x0 x1 x2 x3)
noncomputable def spec_l20Has_e (D : Den ctx) (n : Nat) (lp0 : ByteArray → Int → List Int × List (ByteArray × List Int × Unit) × Unit → List Int → Option ((Int × Unit) × Unit)) (a0 : List Int × List (ByteArray × List Int × Unit) × Unit) (a1 : ByteArray) : Option ((Int × Unit) × Unit) := bindD (C_spec_l20Lane D a0 0) fun b ↦ lp0 a1 0 a0 (Prod.fst (Prod.fst b))
noncomputable def F_spec_l20Has (D : Den ctx) (n : Nat) (a0 : List Int × List (ByteArray × List Int × Unit) × Unit) (a1 : ByteArray) : Option ((Int × Unit) × Unit) := spec_l20Has_e D n (spec_l20Has_LP0 D n) a0 a1
def spec_l20Has_Q0 (x0 : ByteArray) (x1 : Int) (x2 : List Int × List (ByteArray × List Int × Unit) × Unit) (x3 : List Int) : St := stq 34 [(1, AV.val Ty.str x0), (2, AV.addr 2 []), (5, AV.brw 5 [] 0), (7, AV.val (Ty.int IntKind.i64) x1)] [(2, Root.mk (Ty.pair (Ty.sl (Ty.int IntKind.i64)) (Ty.pair (Ty.sl (Ty.pair Ty.str (Ty.pair (Ty.sl (Ty.int IntKind.i64)) Ty.unit))) Ty.unit)) Mk.no x2 true), (5, Root.mk (Ty.sl (Ty.int IntKind.i64)) (Mk.own 0 Mk.no) x3 false)]
def spec_l20Has_Q0_0 (v0_0 : Int) : St := stq 34 [(4, AV.val (Ty.int IntKind.i64) v0_0)] []
def spec_l20Has_Q0_1 : St := stq 34 [] []
theorem spec_l20Has_SB0 (D : Den ctx) (n : Nat) (m : Nat) (K : Ex → St → Option (Out ctx 90)) (x0 : ByteArray) (x1 : Int) (x2 : List Int × List (ByteArray × List Int × Unit) × Unit) (x3 : List Int) :
  LQ funcTab D n 90 [.r, .r, .l, .r, .l] (m + 1) (spec_l20Has_Q0 x0 x1 x2 x3) K = spec_l20Has_b0 D n (fun x0 x1 x2 x3 => LQ funcTab D n 90 [.r, .r, .l, .r, .l] m (spec_l20Has_Q0 x0 x1 x2 x3) K) (fun v0_0 => K (Ex.ret) (spec_l20Has_Q0_0 v0_0)) (K (Ex.exit 0) (spec_l20Has_Q0_1)) x0 x1 x2 x3 := by kernel_rfl
theorem spec_l20Has_EL0 (D : Den ctx) (n : Nat) (K : Ex → St → Option (Out ctx 90)) : ∀ (m : Nat) (x0 : ByteArray) (x1 : Int) (x2 : List Int × List (ByteArray × List Int × Unit) × Unit) (x3 : List Int), LQ funcTab D n 90 [.r, .r, .l, .r, .l] m (spec_l20Has_Q0 x0 x1 x2 x3) K = spec_l20Has_L0 D n (fun v0_0 => K (Ex.ret) (spec_l20Has_Q0_0 v0_0)) (K (Ex.exit 0) (spec_l20Has_Q0_1)) m x0 x1 x2 x3
  | 0, x0, x1, x2, x3 => LQ_zero ..
  | m + 1, x0, x1, x2, x3 => by
    have ih : (fun x0 x1 x2 x3 => LQ funcTab D n 90 [.r, .r, .l, .r, .l] m (spec_l20Has_Q0 x0 x1 x2 x3) K) = spec_l20Has_L0 D n (fun v0_0 => K (Ex.ret) (spec_l20Has_Q0_0 v0_0)) (K (Ex.exit 0) (spec_l20Has_Q0_1)) m := by funext x0 x1 x2 x3; exact spec_l20Has_EL0 D n K m x0 x1 x2 x3
    rw [spec_l20Has_SB0]
    rw [ih]; rfl
theorem spec_l20Has_X0_0 (D : Den ctx) (n : Nat) (v0_0 : Int) :
  (CQ funcTab D n 90 [] [.r, .r, .l, .r, .l] (lastK funcTab 90)) (Ex.ret) (spec_l20Has_Q0_0 v0_0) = spec_l20Has_x0_0 D n v0_0 := by kernel_rfl
theorem spec_l20Has_X0_1 (D : Den ctx) (n : Nat) :
  (CQ funcTab D n 90 [] [.r, .r, .l, .r, .l] (lastK funcTab 90)) (Ex.exit 0) (spec_l20Has_Q0_1) = spec_l20Has_x0_1 D n := by kernel_rfl
theorem spec_l20Has_ELP0 (D : Den ctx) (n : Nat) (x0 : ByteArray) (x1 : Int) (x2 : List Int × List (ByteArray × List Int × Unit) × Unit) (x3 : List Int) :
  LQ funcTab D n 90 [.r, .r, .l, .r, .l] n (spec_l20Has_Q0 x0 x1 x2 x3) (CQ funcTab D n 90 [] [.r, .r, .l, .r, .l] (lastK funcTab 90)) = spec_l20Has_LP0 D n x0 x1 x2 x3 := by
  rw [spec_l20Has_EL0]
  simp only [spec_l20Has_X0_0, spec_l20Has_X0_1]
  rfl
theorem E_spec_l20Has (D : Den ctx) (n : Nat) (a0 : List Int × List (ByteArray × List Int × Unit) × Unit) (a1 : ByteArray) : rfC funcTab D n 90 (a0, (a1, ())) = F_spec_l20Has D n a0 a1 := by
  have h : rfC funcTab D n 90 (a0, (a1, ())) = spec_l20Has_e D n (fun x0 x1 x2 x3 => LQ funcTab D n 90 [.r, .r, .l, .r, .l] n (spec_l20Has_Q0 x0 x1 x2 x3) (CQ funcTab D n 90 [] [.r, .r, .l, .r, .l] (lastK funcTab 90))) a0 a1 := by kernel_rfl
  rw [h]
  simp only [spec_l20Has_ELP0]
  rfl
end Go.G

namespace Go.G
set_option maxRecDepth 100000
set_option maxHeartbeats 0
open Go Go.V
noncomputable def spec_l20Before_b0 (D : Den ctx) (n : Nat) (go : ByteArray → Int → Int → List Int × List (ByteArray × List Int × Unit) × Unit → List Int → Option ((Int × Unit) × Unit)) (K0 : Int → Option ((Int × Unit) × Unit)) (x0 : ByteArray) (x1 : Int) (x2 : Int) (x3 : List Int × List (ByteArray × List Int × Unit) × Unit) (x4 : List Int) : Option ((Int × Unit) × Unit) := br (decide (x2 < (↑(List.length x4) : Int))) (br (decide (0 ≤ x2) && decide (x2 < (↑(List.length x4) : Int))) (br (decide (0 ≤ List.getD x4 (Int.toNat x2) 0) && decide (List.getD x4 (Int.toNat x2) 0 < (↑(List.length (Prod.fst (Prod.snd x3))) : Int))) (br (Op.bytesLess (ByteArray.toList (Prod.fst (List.getD (Prod.fst (Prod.snd x3)) (Int.toNat (List.getD x4 (Int.toNat x2) 0)) (ByteArray.empty, [], ())))) (ByteArray.toList x0)) (br (decide (0 ≤ x2) && decide (x2 < (↑(List.length x4) : Int))) (go x0 (List.getD x4 (Int.toNat x2) 0) (IntKind.wrap IntKind.i64 (x2 + 1)) x3 x4) none) (go x0 x1 (IntKind.wrap IntKind.i64 (x2 + 1)) x3 x4)) none) none) (K0 x1)
noncomputable def spec_l20Before_L0 (D : Den ctx) (n : Nat) (K0 : Int → Option ((Int × Unit) × Unit)) : Nat → (ByteArray) → (Int) → (Int) → (List Int × List (ByteArray × List Int × Unit) × Unit) → (List Int) → Option ((Int × Unit) × Unit) | 0 => (fun x0 x1 x2 x3 x4 => none) | m + 1 => (fun x0 x1 x2 x3 x4 => spec_l20Before_b0 D n (spec_l20Before_L0 D n K0 m) K0 x0 x1 x2 x3 x4)
noncomputable def spec_l20Before_x0_0 (D : Den ctx) (n : Nat) (v0_0 : Int) : Option ((Int × Unit) × Unit) := some ((v0_0, ()), ())
noncomputable def spec_l20Before_LP0 (D : Den ctx) (n : Nat) : (ByteArray) → (Int) → (Int) → (List Int × List (ByteArray × List Int × Unit) × Unit) → (List Int) → Option ((Int × Unit) × Unit) := (fun x0 x1 x2 x3 x4 => spec_l20Before_L0 D n (fun v0_0 => spec_l20Before_x0_0 D n v0_0) n x0 x1 x2 x3 x4)
noncomputable def spec_l20Before_e (D : Den ctx) (n : Nat) (lp0 : ByteArray → Int → Int → List Int × List (ByteArray × List Int × Unit) × Unit → List Int → Option ((Int × Unit) × Unit)) (a0 : List Int × List (ByteArray × List Int × Unit) × Unit) (a1 : Int) (a2 : ByteArray) : Option ((Int × Unit) × Unit) := bindD (C_spec_l20Lane D a0 a1) fun b ↦ lp0 a2 (-1) 0 a0 (Prod.fst (Prod.fst b))
noncomputable def F_spec_l20Before (D : Den ctx) (n : Nat) (a0 : List Int × List (ByteArray × List Int × Unit) × Unit) (a1 : Int) (a2 : ByteArray) : Option ((Int × Unit) × Unit) := spec_l20Before_e D n (spec_l20Before_LP0 D n) a0 a1 a2
def spec_l20Before_Q0 (x0 : ByteArray) (x1 : Int) (x2 : Int) (x3 : List Int × List (ByteArray × List Int × Unit) × Unit) (x4 : List Int) : St := stq 39 [(2, AV.val Ty.str x0), (3, AV.addr 3 []), (7, AV.brw 7 [] 0), (9, AV.val (Ty.int IntKind.i64) x1), (10, AV.val (Ty.int IntKind.i64) x2)] [(3, Root.mk (Ty.pair (Ty.sl (Ty.int IntKind.i64)) (Ty.pair (Ty.sl (Ty.pair Ty.str (Ty.pair (Ty.sl (Ty.int IntKind.i64)) Ty.unit))) Ty.unit)) Mk.no x3 true), (7, Root.mk (Ty.sl (Ty.int IntKind.i64)) (Mk.own 0 Mk.no) x4 false)]
def spec_l20Before_Q0_0 (v0_0 : Int) : St := stq 39 [(9, AV.val (Ty.int IntKind.i64) v0_0)] []
theorem spec_l20Before_SB0 (D : Den ctx) (n : Nat) (m : Nat) (K : Ex → St → Option (Out ctx 91)) (x0 : ByteArray) (x1 : Int) (x2 : Int) (x3 : List Int × List (ByteArray × List Int × Unit) × Unit) (x4 : List Int) :
  LQ funcTab D n 91 [.r, .r, .r, .l, .r, .l] (m + 1) (spec_l20Before_Q0 x0 x1 x2 x3 x4) K = spec_l20Before_b0 D n (fun x0 x1 x2 x3 x4 => LQ funcTab D n 91 [.r, .r, .r, .l, .r, .l] m (spec_l20Before_Q0 x0 x1 x2 x3 x4) K) (fun v0_0 => K (Ex.exit 0) (spec_l20Before_Q0_0 v0_0)) x0 x1 x2 x3 x4 := by kernel_rfl
theorem spec_l20Before_EL0 (D : Den ctx) (n : Nat) (K : Ex → St → Option (Out ctx 91)) : ∀ (m : Nat) (x0 : ByteArray) (x1 : Int) (x2 : Int) (x3 : List Int × List (ByteArray × List Int × Unit) × Unit) (x4 : List Int), LQ funcTab D n 91 [.r, .r, .r, .l, .r, .l] m (spec_l20Before_Q0 x0 x1 x2 x3 x4) K = spec_l20Before_L0 D n (fun v0_0 => K (Ex.exit 0) (spec_l20Before_Q0_0 v0_0)) m x0 x1 x2 x3 x4
  | 0, x0, x1, x2, x3, x4 => LQ_zero ..
  | m + 1, x0, x1, x2, x3, x4 => by
    have ih : (fun x0 x1 x2 x3 x4 => LQ funcTab D n 91 [.r, .r, .r, .l, .r, .l] m (spec_l20Before_Q0 x0 x1 x2 x3 x4) K) = spec_l20Before_L0 D n (fun v0_0 => K (Ex.exit 0) (spec_l20Before_Q0_0 v0_0)) m := by funext x0 x1 x2 x3 x4; exact spec_l20Before_EL0 D n K m x0 x1 x2 x3 x4
    rw [spec_l20Before_SB0]
    rw [ih]; rfl
theorem spec_l20Before_X0_0 (D : Den ctx) (n : Nat) (v0_0 : Int) :
  (CQ funcTab D n 91 [] [.r, .r, .r, .l, .r, .l] (lastK funcTab 91)) (Ex.exit 0) (spec_l20Before_Q0_0 v0_0) = spec_l20Before_x0_0 D n v0_0 := by kernel_rfl
theorem spec_l20Before_ELP0 (D : Den ctx) (n : Nat) (x0 : ByteArray) (x1 : Int) (x2 : Int) (x3 : List Int × List (ByteArray × List Int × Unit) × Unit) (x4 : List Int) :
  LQ funcTab D n 91 [.r, .r, .r, .l, .r, .l] n (spec_l20Before_Q0 x0 x1 x2 x3 x4) (CQ funcTab D n 91 [] [.r, .r, .r, .l, .r, .l] (lastK funcTab 91)) = spec_l20Before_LP0 D n x0 x1 x2 x3 x4 := by
  rw [spec_l20Before_EL0]
  simp only [spec_l20Before_X0_0]
  rfl
theorem E_spec_l20Before (D : Den ctx) (n : Nat) (a0 : List Int × List (ByteArray × List Int × Unit) × Unit) (a1 : Int) (a2 : ByteArray) : rfC funcTab D n 91 (a0, (a1, (a2, ()))) = F_spec_l20Before D n a0 a1 a2 := by
  have h : rfC funcTab D n 91 (a0, (a1, (a2, ()))) = spec_l20Before_e D n (fun x0 x1 x2 x3 x4 => LQ funcTab D n 91 [.r, .r, .r, .l, .r, .l] n (spec_l20Before_Q0 x0 x1 x2 x3 x4) (CQ funcTab D n 91 [] [.r, .r, .r, .l, .r, .l] (lastK funcTab 91))) a0 a1 a2 := by kernel_rfl
  rw [h]
  simp only [spec_l20Before_ELP0]
  rfl
end Go.G

namespace Go.G
set_option maxRecDepth 100000
set_option maxHeartbeats 0
open Go Go.V
noncomputable def spec_l20Set_e (D : Den ctx) (n : Nat) (a0 : List Int × List (ByteArray × List Int × Unit) × Unit) (a1 : Int) (a2 : Int) (a3 : Int) : Option (Unit × (List Int × List (ByteArray × List Int × Unit) × Unit) × Unit) := br (decide (a1 < 0)) (br (decide (0 ≤ a2) && decide (a2 < (↑(List.length (Prod.fst a0)) : Int))) (some ((), (List.set (Prod.fst a0) (Int.toNat a2) a3, Prod.fst (Prod.snd a0), ()), ())) none) (br (decide (0 ≤ a1) && decide (a1 < (↑(List.length (Prod.fst (Prod.snd a0))) : Int))) (br (decide (0 ≤ a2) && decide (a2 < (↑(List.length (Prod.fst (Prod.snd (List.getD (Prod.fst (Prod.snd a0)) (Int.toNat a1) (ByteArray.empty, [], ()))))) : Int))) (some ((), (Prod.fst a0, List.set (Prod.fst (Prod.snd a0)) (Int.toNat a1) (Prod.fst (List.getD (Prod.fst (Prod.snd a0)) (Int.toNat a1) (ByteArray.empty, [], ())), List.set (Prod.fst (Prod.snd (List.getD (Prod.fst (Prod.snd a0)) (Int.toNat a1) (ByteArray.empty, [], ())))) (Int.toNat a2) a3, Prod.snd (Prod.snd (List.getD (Prod.fst (Prod.snd a0)) (Int.toNat a1) (ByteArray.empty, [], ())))), ()), ())) none) none)
noncomputable def F_spec_l20Set (D : Den ctx) (n : Nat) (a0 : List Int × List (ByteArray × List Int × Unit) × Unit) (a1 : Int) (a2 : Int) (a3 : Int) : Option (Unit × (List Int × List (ByteArray × List Int × Unit) × Unit) × Unit) := spec_l20Set_e D n a0 a1 a2 a3
theorem E_spec_l20Set (D : Den ctx) (n : Nat) (a0 : List Int × List (ByteArray × List Int × Unit) × Unit) (a1 : Int) (a2 : Int) (a3 : Int) : rfC funcTab D n 92 (a0, (a1, (a2, (a3, ())))) = F_spec_l20Set D n a0 a1 a2 a3 := by kernel_rfl
end Go.G

namespace Go.G
set_option maxRecDepth 100000
set_option maxHeartbeats 0
open Go Go.V
noncomputable def laws_eqLane_e (D : Den ctx) (n : Nat) (a0 : ByteArray × List Int × Unit) (a1 : ByteArray × List Int × Unit) : Option ((Bool × Unit) × Unit) := br (!List.beq (ByteArray.toList (Prod.fst a0)) (ByteArray.toList (Prod.fst a1))) (some ((false, ()), ())) (bindD (C_laws_eqIntS D (Prod.fst (Prod.snd a0)) (Prod.fst (Prod.snd a1))) fun b ↦ br (!Prod.fst (Prod.fst b)) (some ((false, ()), ())) (some ((true, ()), ())))
noncomputable def F_laws_eqLane (D : Den ctx) (n : Nat) (a0 : ByteArray × List Int × Unit) (a1 : ByteArray × List Int × Unit) : Option ((Bool × Unit) × Unit) := laws_eqLane_e D n a0 a1
theorem E_laws_eqLane (D : Den ctx) (n : Nat) (a0 : ByteArray × List Int × Unit) (a1 : ByteArray × List Int × Unit) : rfC funcTab D n 94 (a0, (a1, ())) = F_laws_eqLane D n a0 a1 := by kernel_rfl
end Go.G

namespace Go.G
set_option maxRecDepth 100000
set_option maxHeartbeats 0
open Go Go.V
noncomputable def spec_l1Pick_e (D : Den ctx) (n : Nat) (a0 : List Int × Int × Int × Unit) (a1 : List ByteArray) : Option ((ByteArray × Unit) × (List Int × Int × Int × Unit) × Unit) := bindD (C_spec_l1Below D a0 (↑(List.length a1) : Int)) fun b ↦ br (decide (0 ≤ Prod.fst (Prod.fst b)) && decide (Prod.fst (Prod.fst b) < (↑(List.length a1) : Int))) (some ((List.getD a1 (Int.toNat (Prod.fst (Prod.fst b))) ByteArray.empty, ()), Prod.fst (Prod.snd b), ())) none
noncomputable def F_spec_l1Pick (D : Den ctx) (n : Nat) (a0 : List Int × Int × Int × Unit) (a1 : List ByteArray) : Option ((ByteArray × Unit) × (List Int × Int × Int × Unit) × Unit) := spec_l1Pick_e D n a0 a1
theorem E_spec_l1Pick (D : Den ctx) (n : Nat) (a0 : List Int × Int × Int × Unit) (a1 : List ByteArray) : rfC funcTab D n 95 (a0, (a1, ())) = F_spec_l1Pick D n a0 a1 := by kernel_rfl
end Go.G

namespace Go.G
set_option maxRecDepth 100000
set_option maxHeartbeats 0
open Go Go.V
noncomputable def slices_Clone_int_int_e (D : Den ctx) (n : Nat) (a0 : List Int) : Option ((List Int × Unit) × Unit) := br (decide (Int.toNat (↑(List.length a0) : Int) = 0)) (both (some (([], ()), ())) (br (decide (0 + List.length a0 ≤ bound)) (some (([] ++ a0, ()), ())) none)) (br (decide (0 + List.length a0 ≤ bound)) (some (([] ++ a0, ()), ())) none)
noncomputable def F_slices_Clone_int_int (D : Den ctx) (n : Nat) (a0 : List Int) : Option ((List Int × Unit) × Unit) := slices_Clone_int_int_e D n a0
theorem E_slices_Clone_int_int (D : Den ctx) (n : Nat) (a0 : List Int) : rfC funcTab D n 96 (a0, ()) = F_slices_Clone_int_int D n a0 := by kernel_rfl
end Go.G

namespace Go.G
set_option maxRecDepth 100000
set_option maxHeartbeats 0
open Go Go.V
noncomputable def laws_szLane_e (D : Den ctx) (n : Nat) (a0 : ByteArray × List Int × Unit) (a1 : Int) : Option ((Int × Unit) × Unit) := br (decide (IntKind.wrap IntKind.i64 (a1 - (↑(ByteArray.size (Prod.fst a0)) : Int)) < 0)) (some ((-1, ()), ())) (bindD (C_laws_szIntS D (Prod.fst (Prod.snd a0)) (IntKind.wrap IntKind.i64 (a1 - (↑(ByteArray.size (Prod.fst a0)) : Int)))) fun b ↦ br (decide (Prod.fst (Prod.fst b) < 0)) (some ((-1, ()), ())) (some ((Prod.fst (Prod.fst b), ()), ())))
noncomputable def F_laws_szLane (D : Den ctx) (n : Nat) (a0 : ByteArray × List Int × Unit) (a1 : Int) : Option ((Int × Unit) × Unit) := laws_szLane_e D n a0 a1
theorem E_laws_szLane (D : Den ctx) (n : Nat) (a0 : ByteArray × List Int × Unit) (a1 : Int) : rfC funcTab D n 97 (a0, (a1, ())) = F_laws_szLane D n a0 a1 := by kernel_rfl
end Go.G

namespace Go.G
set_option maxRecDepth 100000
set_option maxHeartbeats 0
open Go Go.V
noncomputable def spec_l1In_e (D : Den ctx) (n : Nat) (a0 : Int) (a1 : Int) (a2 : Int) : Option ((Bool × Unit) × Unit) := some ((bif decide (a0 ≥ a1) then decide (a0 ≤ a2) else false, ()), ())
noncomputable def F_spec_l1In (D : Den ctx) (n : Nat) (a0 : Int) (a1 : Int) (a2 : Int) : Option ((Bool × Unit) × Unit) := spec_l1In_e D n a0 a1 a2
theorem E_spec_l1In (D : Den ctx) (n : Nat) (a0 : Int) (a1 : Int) (a2 : Int) : rfC funcTab D n 98 (a0, (a1, (a2, ()))) = F_spec_l1In D n a0 a1 a2 := by kernel_rfl
end Go.G

namespace Go.G
set_option maxRecDepth 100000
set_option maxHeartbeats 0
open Go Go.V
noncomputable def spec_l1Bit_e (D : Den ctx) (n : Nat) (a0 : Bool) : Option ((Int × Unit) × Unit) := br a0 (some ((1, ()), ())) (some ((0, ()), ()))
noncomputable def F_spec_l1Bit (D : Den ctx) (n : Nat) (a0 : Bool) : Option ((Int × Unit) × Unit) := spec_l1Bit_e D n a0
theorem E_spec_l1Bit (D : Den ctx) (n : Nat) (a0 : Bool) : rfC funcTab D n 99 (a0, ()) = F_spec_l1Bit D n a0 := by kernel_rfl
end Go.G

namespace Go.G
set_option maxRecDepth 100000
set_option maxHeartbeats 0
open Go Go.V
noncomputable def laws_toLane_e (D : Den ctx) (n : Nat) (a0 : ByteArray × List Int × Unit) : Option (((ByteArray × List Int × Unit) × Unit) × Unit) := bindD (C_laws_toIntS D (Prod.fst (Prod.snd a0))) fun b ↦ some (((Prod.fst a0, Prod.fst (Prod.fst b), ()), ()), ())
noncomputable def F_laws_toLane (D : Den ctx) (n : Nat) (a0 : ByteArray × List Int × Unit) : Option (((ByteArray × List Int × Unit) × Unit) × Unit) := laws_toLane_e D n a0
theorem E_laws_toLane (D : Den ctx) (n : Nat) (a0 : ByteArray × List Int × Unit) : rfC funcTab D n 100 (a0, ()) = F_laws_toLane D n a0 := by kernel_rfl
end Go.G

namespace Go.G
set_option maxRecDepth 100000
set_option maxHeartbeats 0
open Go Go.V
noncomputable def impl_from_e (D : Den ctx) (n : Nat) (a0 : Int) (a1 : Int) (a2 : Int) : Option ((Bool × Unit) × Unit) := some ((bif decide (a0 ≥ a1) then decide (a0 ≤ a2) else false, ()), ())
noncomputable def F_impl_from (D : Den ctx) (n : Nat) (a0 : Int) (a1 : Int) (a2 : Int) : Option ((Bool × Unit) × Unit) := impl_from_e D n a0 a1 a2
theorem E_impl_from (D : Den ctx) (n : Nat) (a0 : Int) (a1 : Int) (a2 : Int) : rfC funcTab D n 101 (a0, (a1, (a2, ()))) = F_impl_from D n a0 a1 a2 := by kernel_rfl
end Go.G

namespace Go.G
set_option maxRecDepth 100000
set_option maxHeartbeats 0
open Go Go.V
noncomputable def spec_l20DrawRight_b0 (D : Den ctx) (n : Nat) (go : Int → List Int × Int × Int × Unit → List Int × List (ByteArray × List Int × Unit) × Unit → List Int × List (ByteArray × List Int × Unit) × Unit → Option (((List Int × List (ByteArray × List Int × Unit) × Unit) × Unit) × (List Int × Int × Int × Unit) × Unit)) (K0 : List Int × Int × Int × Unit → List Int × List (ByteArray × List Int × Unit) × Unit → List Int × List (ByteArray × List Int × Unit) × Unit → Option (((List Int × List (ByteArray × List Int × Unit) × Unit) × Unit) × (List Int × Int × Int × Unit) × Unit)) (x0 : Int) (x1 : List Int × Int × Int × Unit) (x2 : List Int × List (ByteArray × List Int × Unit) × Unit) (x3 : List Int × List (ByteArray × List Int × Unit) × Unit) : Option (((List Int × List (ByteArray × List Int × Unit) × Unit) × Unit) × (List Int × Int × Int × Unit) × Unit) := bindD (C_spec_l1Below D x1 14) fun b ↦ br (decide (x0 < Prod.fst (Prod.fst b))) (bindD (C_spec_l1Once D (Prod.fst (Prod.snd b)) 5) fun b ↦ br (Prod.fst (Prod.fst b)) (bindD (C_spec_l20DrawKey D (Prod.fst (Prod.snd b))) fun b ↦ bindD (C_spec_SkipDel D (Prod.fst x3, Prod.fst (Prod.snd x3), ()) (Prod.fst (Prod.fst b))) fun b_1 ↦ go (IntKind.wrap IntKind.i64 (x0 + 1)) (Prod.fst (Prod.snd b)) x2 (Prod.fst (Prod.fst (Prod.fst b_1)), Prod.fst (Prod.snd (Prod.fst (Prod.fst b_1))), ())) (bindD (C_spec_l20DrawKey D (Prod.fst (Prod.snd b))) fun b ↦ bindD (C_spec_SkipPut D (Prod.fst x3, Prod.fst (Prod.snd x3), ()) (Prod.fst (Prod.fst b))) fun b_1 ↦ go (IntKind.wrap IntKind.i64 (x0 + 1)) (Prod.fst (Prod.snd b)) x2 (Prod.fst (Prod.fst (Prod.fst b_1)), Prod.fst (Prod.snd (Prod.fst (Prod.fst b_1))), ()))) (K0 (Prod.fst (Prod.snd b)) x2 x3)
noncomputable def spec_l20DrawRight_L0 (D : Den ctx) (n : Nat) (K0 : List Int × Int × Int × Unit → List Int × List (ByteArray × List Int × Unit) × Unit → List Int × List (ByteArray × List Int × Unit) × Unit → Option (((List Int × List (ByteArray × List Int × Unit) × Unit) × Unit) × (List Int × Int × Int × Unit) × Unit)) : Nat → (Int) → (List Int × Int × Int × Unit) → (List Int × List (ByteArray × List Int × Unit) × Unit) → (List Int × List (ByteArray × List Int × Unit) × Unit) → Option (((List Int × List (ByteArray × List Int × Unit) × Unit) × Unit) × (List Int × Int × Int × Unit) × Unit) | 0 => (fun x0 x1 x2 x3 => none) | m + 1 => (fun x0 x1 x2 x3 => spec_l20DrawRight_b0 D n (spec_l20DrawRight_L0 D n K0 m) K0 x0 x1 x2 x3)
noncomputable def spec_l20DrawRight_x0_0 (D : Den ctx) (n : Nat) (v0_0 : List Int × Int × Int × Unit) (v0_1 : List Int × List (ByteArray × List Int × Unit) × Unit) (v0_2 : List Int × List (ByteArray × List Int × Unit) × Unit) : Option (((List Int × List (ByteArray × List Int × Unit) × Unit) × Unit) × (List Int × Int × Int × Unit) × Unit) := some (((Prod.fst v0_2, Prod.fst (Prod.snd v0_2), ()), ()), v0_0, ())
noncomputable def spec_l20DrawRight_LP0 (D : Den ctx) (n : Nat) : (Int) → (List Int × Int × Int × Unit) → (List Int × List (ByteArray × List Int × Unit) × Unit) → (List Int × List (ByteArray × List Int × Unit) × Unit) → Option (((List Int × List (ByteArray × List Int × Unit) × Unit) × Unit) × (List Int × Int × Int × Unit) × Unit) := (fun x0 x1 x2 x3 => spec_l20DrawRight_L0 D n (fun v0_0 v0_1 v0_2 => spec_l20DrawRight_x0_0 D n v0_0 v0_1 v0_2) n x0 x1 x2 x3)
noncomputable def spec_l20DrawRight_e (D : Den ctx) (n : Nat) (lp0 : Int → List Int × Int × Int × Unit → List Int × List (ByteArray × List Int × Unit) × Unit → List Int × List (ByteArray × List Int × Unit) × Unit → Option (((List Int × List (ByteArray × List Int × Unit) × Unit) × Unit) × (List Int × Int × Int × Unit) × Unit)) (a0 : List Int × Int × Int × Unit) : Option (((List Int × List (ByteArray × List Int × Unit) × Unit) × Unit) × (List Int × Int × Int × Unit) × Unit) := bindD (C_spec_SkipNew D) fun b ↦ lp0 0 a0 ([], [], ()) (Prod.fst (Prod.fst (Prod.fst b)), Prod.fst (Prod.snd (Prod.fst (Prod.fst b))), ())
noncomputable def F_spec_l20DrawRight (D : Den ctx) (n : Nat) (a0 : List Int × Int × Int × Unit) : Option (((List Int × List (ByteArray × List Int × Unit) × Unit) × Unit) × (List Int × Int × Int × Unit) × Unit) := spec_l20DrawRight_e D n (spec_l20DrawRight_LP0 D n) a0
def spec_l20DrawRight_Q0 (x0 : Int) (x1 : List Int × Int × Int × Unit) (x2 : List Int × List (ByteArray × List Int × Unit) × Unit) (x3 : List Int × List (ByteArray × List Int × Unit) × Unit) : St := stq 29 [(0, AV.addr 0 []), (2, AV.addr 2 []), (3, AV.addr 3 []), (4, AV.val (Ty.int IntKind.i64) x0)] [(0, Root.mk (Ty.pair (Ty.sl (Ty.int IntKind.u8)) (Ty.pair (Ty.int IntKind.i64) (Ty.pair (Ty.int IntKind.i64) Ty.unit))) Mk.no x1 true), (2, Root.mk (Ty.pair (Ty.sl (Ty.int IntKind.i64)) (Ty.pair (Ty.sl (Ty.pair Ty.str (Ty.pair (Ty.sl (Ty.int IntKind.i64)) Ty.unit))) Ty.unit)) (Mk.pr (Mk.own 0 Mk.no) (Mk.pr (Mk.own 0 (Mk.pr Mk.no (Mk.pr (Mk.own 0 Mk.no) Mk.no))) Mk.no)) x2 true), (3, Root.mk (Ty.pair (Ty.sl (Ty.int IntKind.i64)) (Ty.pair (Ty.sl (Ty.pair Ty.str (Ty.pair (Ty.sl (Ty.int IntKind.i64)) Ty.unit))) Ty.unit)) (Mk.pr (Mk.own 0 Mk.no) (Mk.pr (Mk.own 0 (Mk.pr Mk.no (Mk.pr (Mk.own 0 Mk.no) Mk.no))) Mk.no)) x3 true)]
def spec_l20DrawRight_Q0_0 (v0_0 : List Int × Int × Int × Unit) (v0_1 : List Int × List (ByteArray × List Int × Unit) × Unit) (v0_2 : List Int × List (ByteArray × List Int × Unit) × Unit) : St := stq 29 [(0, AV.addr 0 []), (2, AV.addr 2 []), (3, AV.addr 3 [])] [(0, Root.mk (Ty.pair (Ty.sl (Ty.int IntKind.u8)) (Ty.pair (Ty.int IntKind.i64) (Ty.pair (Ty.int IntKind.i64) Ty.unit))) Mk.no v0_0 true), (2, Root.mk (Ty.pair (Ty.sl (Ty.int IntKind.i64)) (Ty.pair (Ty.sl (Ty.pair Ty.str (Ty.pair (Ty.sl (Ty.int IntKind.i64)) Ty.unit))) Ty.unit)) (Mk.pr (Mk.own 0 Mk.no) (Mk.pr (Mk.own 0 (Mk.pr Mk.no (Mk.pr (Mk.own 0 Mk.no) Mk.no))) Mk.no)) v0_1 true), (3, Root.mk (Ty.pair (Ty.sl (Ty.int IntKind.i64)) (Ty.pair (Ty.sl (Ty.pair Ty.str (Ty.pair (Ty.sl (Ty.int IntKind.i64)) Ty.unit))) Ty.unit)) (Mk.pr (Mk.own 0 Mk.no) (Mk.pr (Mk.own 0 (Mk.pr Mk.no (Mk.pr (Mk.own 0 Mk.no) Mk.no))) Mk.no)) v0_2 true)]
theorem spec_l20DrawRight_SB0 (D : Den ctx) (n : Nat) (m : Nat) (K : Ex → St → Option (Out ctx 104)) (x0 : Int) (x1 : List Int × Int × Int × Unit) (x2 : List Int × List (ByteArray × List Int × Unit) × Unit) (x3 : List Int × List (ByteArray × List Int × Unit) × Unit) :
  LQ funcTab D n 104 [.r, .r, .l, .r, .l] (m + 1) (spec_l20DrawRight_Q0 x0 x1 x2 x3) K = spec_l20DrawRight_b0 D n (fun x0 x1 x2 x3 => LQ funcTab D n 104 [.r, .r, .l, .r, .l] m (spec_l20DrawRight_Q0 x0 x1 x2 x3) K) (fun v0_0 v0_1 v0_2 => K (Ex.exit 0) (spec_l20DrawRight_Q0_0 v0_0 v0_1 v0_2)) x0 x1 x2 x3 := by kernel_rfl
theorem spec_l20DrawRight_EL0 (D : Den ctx) (n : Nat) (K : Ex → St → Option (Out ctx 104)) : ∀ (m : Nat) (x0 : Int) (x1 : List Int × Int × Int × Unit) (x2 : List Int × List (ByteArray × List Int × Unit) × Unit) (x3 : List Int × List (ByteArray × List Int × Unit) × Unit), LQ funcTab D n 104 [.r, .r, .l, .r, .l] m (spec_l20DrawRight_Q0 x0 x1 x2 x3) K = spec_l20DrawRight_L0 D n (fun v0_0 v0_1 v0_2 => K (Ex.exit 0) (spec_l20DrawRight_Q0_0 v0_0 v0_1 v0_2)) m x0 x1 x2 x3
  | 0, x0, x1, x2, x3 => LQ_zero ..
  | m + 1, x0, x1, x2, x3 => by
    have ih : (fun x0 x1 x2 x3 => LQ funcTab D n 104 [.r, .r, .l, .r, .l] m (spec_l20DrawRight_Q0 x0 x1 x2 x3) K) = spec_l20DrawRight_L0 D n (fun v0_0 v0_1 v0_2 => K (Ex.exit 0) (spec_l20DrawRight_Q0_0 v0_0 v0_1 v0_2)) m := by funext x0 x1 x2 x3; exact spec_l20DrawRight_EL0 D n K m x0 x1 x2 x3
    rw [spec_l20DrawRight_SB0]
    rw [ih]; rfl
theorem spec_l20DrawRight_X0_0 (D : Den ctx) (n : Nat) (v0_0 : List Int × Int × Int × Unit) (v0_1 : List Int × List (ByteArray × List Int × Unit) × Unit) (v0_2 : List Int × List (ByteArray × List Int × Unit) × Unit) :
  (CQ funcTab D n 104 [] [.r, .r, .l, .r, .l] (lastK funcTab 104)) (Ex.exit 0) (spec_l20DrawRight_Q0_0 v0_0 v0_1 v0_2) = spec_l20DrawRight_x0_0 D n v0_0 v0_1 v0_2 := by kernel_rfl
theorem spec_l20DrawRight_ELP0 (D : Den ctx) (n : Nat) (x0 : Int) (x1 : List Int × Int × Int × Unit) (x2 : List Int × List (ByteArray × List Int × Unit) × Unit) (x3 : List Int × List (ByteArray × List Int × Unit) × Unit) :
  LQ funcTab D n 104 [.r, .r, .l, .r, .l] n (spec_l20DrawRight_Q0 x0 x1 x2 x3) (CQ funcTab D n 104 [] [.r, .r, .l, .r, .l] (lastK funcTab 104)) = spec_l20DrawRight_LP0 D n x0 x1 x2 x3 := by
  rw [spec_l20DrawRight_EL0]
  simp only [spec_l20DrawRight_X0_0]
  rfl
theorem E_spec_l20DrawRight (D : Den ctx) (n : Nat) (a0 : List Int × Int × Int × Unit) : rfC funcTab D n 104 (a0, ()) = F_spec_l20DrawRight D n a0 := by
  have h : rfC funcTab D n 104 (a0, ()) = spec_l20DrawRight_e D n (fun x0 x1 x2 x3 => LQ funcTab D n 104 [.r, .r, .l, .r, .l] n (spec_l20DrawRight_Q0 x0 x1 x2 x3) (CQ funcTab D n 104 [] [.r, .r, .l, .r, .l] (lastK funcTab 104))) a0 := by kernel_rfl
  rw [h]
  simp only [spec_l20DrawRight_ELP0]
  rfl
end Go.G

namespace Go.G
set_option maxRecDepth 100000
set_option maxHeartbeats 0
open Go Go.V
noncomputable def spec_l1Below_e (D : Den ctx) (n : Nat) (a0 : List Int × Int × Int × Unit) (a1 : Int) : Option ((Int × Unit) × (List Int × Int × Int × Unit) × Unit) := br (decide (a1 ≤ 0)) (some ((0, ()), a0, ())) (br (decide (a1 ≤ 256)) (bindD (C_spec_l1Byte D a0) fun b ↦ br (decide (a1 = 0)) none (some ((Int.tmod (Prod.fst (Prod.fst b)) a1, ()), Prod.fst (Prod.snd b), ()))) (bindD (C_spec_l1Byte D a0) fun b ↦ bindD (C_spec_l1Byte D (Prod.fst (Prod.snd b))) fun b_1 ↦ bindD (C_spec_l1Byte D (Prod.fst (Prod.snd b_1))) fun b_2 ↦ bindD (C_spec_l1Byte D (Prod.fst (Prod.snd b_2))) fun b_3 ↦ br (decide (a1 = 0)) none (some ((Int.tmod (IntKind.wrap IntKind.i64 (IntKind.wrap IntKind.i64 (IntKind.wrap IntKind.i64 (IntKind.wrap IntKind.i64 (Prod.fst (Prod.fst b) * 16777216) + IntKind.wrap IntKind.i64 (Prod.fst (Prod.fst b_1) * 65536)) + IntKind.wrap IntKind.i64 (Prod.fst (Prod.fst b_2) * 256)) + Prod.fst (Prod.fst b_3))) a1, ()), Prod.fst (Prod.snd b_3), ()))))
noncomputable def F_spec_l1Below (D : Den ctx) (n : Nat) (a0 : List Int × Int × Int × Unit) (a1 : Int) : Option ((Int × Unit) × (List Int × Int × Int × Unit) × Unit) := spec_l1Below_e D n a0 a1
theorem E_spec_l1Below (D : Den ctx) (n : Nat) (a0 : List Int × Int × Int × Unit) (a1 : Int) : rfC funcTab D n 105 (a0, (a1, ())) = F_spec_l1Below D n a0 a1 := by kernel_rfl
end Go.G

namespace Go.G
set_option maxRecDepth 100000
set_option maxHeartbeats 0
open Go Go.V
noncomputable def spec_l1Once_e (D : Den ctx) (n : Nat) (a0 : List Int × Int × Int × Unit) (a1 : Int) : Option ((Bool × Unit) × (List Int × Int × Int × Unit) × Unit) := bindD (C_spec_l1Below D a0 a1) fun b ↦ some ((decide (Prod.fst (Prod.fst b) = 0), ()), Prod.fst (Prod.snd b), ())
noncomputable def F_spec_l1Once (D : Den ctx) (n : Nat) (a0 : List Int × Int × Int × Unit) (a1 : Int) : Option ((Bool × Unit) × (List Int × Int × Int × Unit) × Unit) := spec_l1Once_e D n a0 a1
theorem E_spec_l1Once (D : Den ctx) (n : Nat) (a0 : List Int × Int × Int × Unit) (a1 : Int) : rfC funcTab D n 107 (a0, (a1, ())) = F_spec_l1Once D n a0 a1 := by kernel_rfl
end Go.G

namespace Go.G
set_option maxRecDepth 100000
set_option maxHeartbeats 0
open Go Go.V
noncomputable def spec_l1Byte_e (D : Den ctx) (n : Nat) (a0 : List Int × Int × Int × Unit) : Option ((Int × Unit) × (List Int × Int × Int × Unit) × Unit) := br (decide (Prod.fst (Prod.snd a0) < (↑(List.length (Prod.fst a0)) : Int))) (br (decide (0 ≤ Prod.fst (Prod.snd a0)) && decide (Prod.fst (Prod.snd a0) < (↑(List.length (Prod.fst a0)) : Int))) (some ((IntKind.wrap IntKind.i64 (↑(BitVec.toNat (BitVec.and (BitVec.ofInt (IntKind.bits IntKind.i64) (IntKind.wrap IntKind.i64 (IntKind.wrap IntKind.i64 (↑(BitVec.toNat (BitVec.and (BitVec.ofInt (IntKind.bits IntKind.i64) (IntKind.wrap IntKind.i64 (↑(BitVec.toNat (BitVec.xor (BitVec.ofInt (IntKind.bits IntKind.i64) (Int.fdiv (IntKind.wrap IntKind.i64 (IntKind.wrap IntKind.i64 (Prod.fst (Prod.snd (Prod.snd a0)) * 6364136223846793005) + 1442695040888963407)) (Int.pow 2 (if Int.toNat 33 ≤ IntKind.bits IntKind.i64 then Int.toNat 33 else IntKind.bits IntKind.i64)))) (BitVec.ofInt (IntKind.bits IntKind.i64) (Int.fdiv (IntKind.wrap IntKind.i64 (IntKind.wrap IntKind.i64 (Prod.fst (Prod.snd (Prod.snd a0)) * 6364136223846793005) + 1442695040888963407)) (Int.pow 2 (if Int.toNat 45 ≤ IntKind.bits IntKind.i64 then Int.toNat 45 else IntKind.bits IntKind.i64)))))) : Int))) (BitVec.ofInt (IntKind.bits IntKind.i64) 255))) : Int) + IntKind.wrap IntKind.i64 (List.getD (Prod.fst a0) (Int.toNat (Prod.fst (Prod.snd a0))) 0)))) (BitVec.ofInt (IntKind.bits IntKind.i64) 255))) : Int), ()), (Prod.fst a0, IntKind.wrap IntKind.i64 (Prod.fst (Prod.snd a0) + 1), IntKind.wrap IntKind.i64 (IntKind.wrap IntKind.i64 (Prod.fst (Prod.snd (Prod.snd a0)) * 6364136223846793005) + 1442695040888963407), Prod.snd (Prod.snd (Prod.snd a0))), ())) none) (some ((IntKind.wrap IntKind.i64 (↑(BitVec.toNat (BitVec.and (BitVec.ofInt (IntKind.bits IntKind.i64) (IntKind.wrap IntKind.i64 (↑(BitVec.toNat (BitVec.xor (BitVec.ofInt (IntKind.bits IntKind.i64) (Int.fdiv (IntKind.wrap IntKind.i64 (IntKind.wrap IntKind.i64 (Prod.fst (Prod.snd (Prod.snd a0)) * 6364136223846793005) + 1442695040888963407)) (Int.pow 2 (if Int.toNat 33 ≤ IntKind.bits IntKind.i64 then Int.toNat 33 else IntKind.bits IntKind.i64)))) (BitVec.ofInt (IntKind.bits IntKind.i64) (Int.fdiv (IntKind.wrap IntKind.i64 (IntKind.wrap IntKind.i64 (Prod.fst (Prod.snd (Prod.snd a0)) * 6364136223846793005) + 1442695040888963407)) (Int.pow 2 (if Int.toNat 45 ≤ IntKind.bits IntKind.i64 then Int.toNat 45 else IntKind.bits IntKind.i64)))))) : Int))) (BitVec.ofInt (IntKind.bits IntKind.i64) 255))) : Int), ()), (Prod.fst a0, Prod.fst (Prod.snd a0), IntKind.wrap IntKind.i64 (IntKind.wrap IntKind.i64 (Prod.fst (Prod.snd (Prod.snd a0)) * 6364136223846793005) + 1442695040888963407), Prod.snd (Prod.snd (Prod.snd a0))), ()))
noncomputable def F_spec_l1Byte (D : Den ctx) (n : Nat) (a0 : List Int × Int × Int × Unit) : Option ((Int × Unit) × (List Int × Int × Int × Unit) × Unit) := spec_l1Byte_e D n a0
theorem E_spec_l1Byte (D : Den ctx) (n : Nat) (a0 : List Int × Int × Int × Unit) : rfC funcTab D n 108 (a0, ()) = F_spec_l1Byte D n a0 := by kernel_rfl
end Go.G

namespace Go.G
set_option maxRecDepth 100000
open Go Go.V Go.Proofs
def XOk (X : Ext) : Prop := ∀ k : Nat, (Nat.beq k 55 || Nat.beq k 86) = false → X.is k = false
theorem noExt_ok : XOk noExt := fun _ _ => rfl
theorem S_laws_FnSkipSeeks {X : Ext} (hX : XOk X) (n : Nat) (a0 : List Int) : C_laws_FnSkipSeeks (DD X (n + 1)) a0 = F_laws_FnSkipSeeks (DD X n) n a0 := (DD_succ X Try.func13 (by kernel_rfl) (hX 13 rfl) n _).trans (E_laws_FnSkipSeeks ..)
theorem S_spec_HeightOf {X : Ext} (hX : XOk X) (n : Nat) (a0 : ByteArray) : C_spec_HeightOf (DD X (n + 1)) a0 = F_spec_HeightOf (DD X n) n a0 := (DD_succ X Try.func20 (by kernel_rfl) (hX 20 rfl) n _).trans (E_spec_HeightOf ..)
theorem S_impl_HeightOf {X : Ext} (hX : XOk X) (n : Nat) (a0 : ByteArray) : C_impl_HeightOf (DD X (n + 1)) a0 = F_impl_HeightOf (DD X n) n a0 := (DD_succ X Try.func21 (by kernel_rfl) (hX 21 rfl) n _).trans (E_impl_HeightOf ..)
theorem S_spec_SkipNew {X : Ext} (hX : XOk X) (n : Nat) : C_spec_SkipNew (DD X (n + 1)) = F_spec_SkipNew (DD X n) n := (DD_succ X Try.func22 (by kernel_rfl) (hX 22 rfl) n _).trans (E_spec_SkipNew ..)
theorem S_impl_SkipNew {X : Ext} (hX : XOk X) (n : Nat) : C_impl_SkipNew (DD X (n + 1)) = F_impl_SkipNew (DD X n) n := (DD_succ X Try.func23 (by kernel_rfl) (hX 23 rfl) n _).trans (E_impl_SkipNew ..)
theorem S_laws_eqSkip {X : Ext} (hX : XOk X) (n : Nat) (a0 : List Int × List (ByteArray × List Int × Unit) × Unit) (a1 : List Int × List (ByteArray × List Int × Unit) × Unit) : C_laws_eqSkip (DD X (n + 1)) a0 a1 = F_laws_eqSkip (DD X n) n a0 a1 := (DD_succ X Try.func24 (by kernel_rfl) (hX 24 rfl) n _).trans (E_laws_eqSkip ..)
theorem S_laws_markSkip {X : Ext} (hX : XOk X) (n : Nat) (a0 : List Int × List (ByteArray × List Int × Unit) × Unit) (a1 : Int) : C_laws_markSkip (DD X (n + 1)) a0 a1 = F_laws_markSkip (DD X n) n a0 a1 := (DD_succ X Try.func25 (by kernel_rfl) (hX 25 rfl) n _).trans (E_laws_markSkip ..)
theorem S_laws_heldSkip {X : Ext} (hX : XOk X) (n : Nat) (a0 : List Int × List (ByteArray × List Int × Unit) × Unit) (a1 : Int) : C_laws_heldSkip (DD X (n + 1)) a0 a1 = F_laws_heldSkip (DD X n) n a0 a1 := (DD_succ X Try.func26 (by kernel_rfl) (hX 26 rfl) n _).trans (E_laws_heldSkip ..)
theorem S_laws_big {X : Ext} (hX : XOk X) (n : Nat) (a0 : List Int) : C_laws_big (DD X (n + 1)) a0 = F_laws_big (DD X n) n a0 := (DD_succ X Try.func34 (by kernel_rfl) (hX 34 rfl) n _).trans (E_laws_big ..)
theorem S_spec_DrawHeightOf {X : Ext} (hX : XOk X) (n : Nat) (a0 : List Int) : C_spec_DrawHeightOf (DD X (n + 1)) a0 = F_spec_DrawHeightOf (DD X n) n a0 := (DD_succ X Try.func35 (by kernel_rfl) (hX 35 rfl) n _).trans (E_spec_DrawHeightOf ..)
theorem S_impl_SkipPut {X : Ext} (hX : XOk X) (n : Nat) (a0 : List Int × List (ByteArray × List Int × Unit) × Unit) (a1 : ByteArray) : C_impl_SkipPut (DD X (n + 1)) a0 a1 = F_impl_SkipPut (DD X n) n a0 a1 := (DD_succ X Try.func36 (by kernel_rfl) (hX 36 rfl) n _).trans (E_impl_SkipPut ..)
theorem S_laws_szSkip {X : Ext} (hX : XOk X) (n : Nat) (a0 : List Int × List (ByteArray × List Int × Unit) × Unit) (a1 : Int) : C_laws_szSkip (DD X (n + 1)) a0 a1 = F_laws_szSkip (DD X n) n a0 a1 := (DD_succ X Try.func37 (by kernel_rfl) (hX 37 rfl) n _).trans (E_laws_szSkip ..)
theorem S_spec_SkipOk {X : Ext} (hX : XOk X) (n : Nat) (a0 : List Int × List (ByteArray × List Int × Unit) × Unit) : C_spec_SkipOk (DD X (n + 1)) a0 = F_spec_SkipOk (DD X n) n a0 := (DD_succ X Try.func38 (by kernel_rfl) (hX 38 rfl) n _).trans (E_spec_SkipOk ..)
theorem S_laws_toSkip {X : Ext} (hX : XOk X) (n : Nat) (a0 : List Int × List (ByteArray × List Int × Unit) × Unit) : C_laws_toSkip (DD X (n + 1)) a0 = F_laws_toSkip (DD X n) n a0 := (DD_succ X Try.func39 (by kernel_rfl) (hX 39 rfl) n _).trans (E_laws_toSkip ..)
theorem S_impl_SkipOk {X : Ext} (hX : XOk X) (n : Nat) (a0 : List Int × List (ByteArray × List Int × Unit) × Unit) : C_impl_SkipOk (DD X (n + 1)) a0 = F_impl_SkipOk (DD X n) n a0 := (DD_succ X Try.func40 (by kernel_rfl) (hX 40 rfl) n _).trans (E_impl_SkipOk ..)
theorem S_spec_DrawSkipAll {X : Ext} (hX : XOk X) (n : Nat) (a0 : List Int) : C_spec_DrawSkipAll (DD X (n + 1)) a0 = F_spec_DrawSkipAll (DD X n) n a0 := (DD_succ X Try.func43 (by kernel_rfl) (hX 43 rfl) n _).trans (E_spec_DrawSkipAll ..)
theorem S_impl_SkipAll {X : Ext} (hX : XOk X) (n : Nat) (a0 : List Int × List (ByteArray × List Int × Unit) × Unit) : C_impl_SkipAll (DD X (n + 1)) a0 = F_impl_SkipAll (DD X n) n a0 := (DD_succ X Try.func44 (by kernel_rfl) (hX 44 rfl) n _).trans (E_impl_SkipAll ..)
theorem S_spec_SkipAll {X : Ext} (hX : XOk X) (n : Nat) (a0 : List Int × List (ByteArray × List Int × Unit) × Unit) : C_spec_SkipAll (DD X (n + 1)) a0 = F_spec_SkipAll (DD X n) n a0 := (DD_succ X Try.func45 (by kernel_rfl) (hX 45 rfl) n _).trans (E_spec_SkipAll ..)
theorem S_spec_SkipSeek {X : Ext} (hX : XOk X) (n : Nat) (a0 : List Int × List (ByteArray × List Int × Unit) × Unit) (a1 : ByteArray) : C_spec_SkipSeek (DD X (n + 1)) a0 a1 = F_spec_SkipSeek (DD X n) n a0 a1 := (DD_succ X Try.func46 (by kernel_rfl) (hX 46 rfl) n _).trans (E_spec_SkipSeek ..)
theorem S_impl_SkipSeek {X : Ext} (hX : XOk X) (n : Nat) (a0 : List Int × List (ByteArray × List Int × Unit) × Unit) (a1 : ByteArray) : C_impl_SkipSeek (DD X (n + 1)) a0 a1 = F_impl_SkipSeek (DD X n) n a0 a1 := (DD_succ X Try.func47 (by kernel_rfl) (hX 47 rfl) n _).trans (E_impl_SkipSeek ..)
theorem S_laws_eqStringS {X : Ext} (hX : XOk X) (n : Nat) (a0 : List ByteArray) (a1 : List ByteArray) : C_laws_eqStringS (DD X (n + 1)) a0 a1 = F_laws_eqStringS (DD X n) n a0 a1 := (DD_succ X Try.func48 (by kernel_rfl) (hX 48 rfl) n _).trans (E_laws_eqStringS ..)
theorem S_laws_markStringS {X : Ext} (hX : XOk X) (n : Nat) (a0 : List ByteArray) (a1 : Int) : C_laws_markStringS (DD X (n + 1)) a0 a1 = F_laws_markStringS (DD X n) n a0 a1 := (DD_succ X Try.func49 (by kernel_rfl) (hX 49 rfl) n _).trans (E_laws_markStringS ..)
theorem S_laws_heldStringS {X : Ext} (hX : XOk X) (n : Nat) (a0 : List ByteArray) (a1 : Int) : C_laws_heldStringS (DD X (n + 1)) a0 a1 = F_laws_heldStringS (DD X n) n a0 a1 := (DD_succ X Try.func50 (by kernel_rfl) (hX 50 rfl) n _).trans (E_laws_heldStringS ..)
theorem S_spec_DrawSkipSeek {X : Ext} (hX : XOk X) (n : Nat) (a0 : List Int) : C_spec_DrawSkipSeek (DD X (n + 1)) a0 = F_spec_DrawSkipSeek (DD X n) n a0 := (DD_succ X Try.func51 (by kernel_rfl) (hX 51 rfl) n _).trans (E_spec_DrawSkipSeek ..)
theorem S_spec_SkipPut {X : Ext} (hX : XOk X) (n : Nat) (a0 : List Int × List (ByteArray × List Int × Unit) × Unit) (a1 : ByteArray) : C_spec_SkipPut (DD X (n + 1)) a0 a1 = F_spec_SkipPut (DD X n) n a0 a1 := (DD_succ X Try.func53 (by kernel_rfl) (hX 53 rfl) n _).trans (E_spec_SkipPut ..)
theorem S_spec_SkipDel {X : Ext} (hX : XOk X) (n : Nat) (a0 : List Int × List (ByteArray × List Int × Unit) × Unit) (a1 : ByteArray) : C_spec_SkipDel (DD X (n + 1)) a0 a1 = F_spec_SkipDel (DD X n) n a0 a1 := (DD_succ X Try.func56 (by kernel_rfl) (hX 56 rfl) n _).trans (E_spec_SkipDel ..)
theorem S_laws_eqIntS {X : Ext} (hX : XOk X) (n : Nat) (a0 : List Int) (a1 : List Int) : C_laws_eqIntS (DD X (n + 1)) a0 a1 = F_laws_eqIntS (DD X n) n a0 a1 := (DD_succ X Try.func60 (by kernel_rfl) (hX 60 rfl) n _).trans (E_laws_eqIntS ..)
theorem S_laws_eqLaneS {X : Ext} (hX : XOk X) (n : Nat) (a0 : List (ByteArray × List Int × Unit)) (a1 : List (ByteArray × List Int × Unit)) : C_laws_eqLaneS (DD X (n + 1)) a0 a1 = F_laws_eqLaneS (DD X n) n a0 a1 := (DD_succ X Try.func61 (by kernel_rfl) (hX 61 rfl) n _).trans (E_laws_eqLaneS ..)
theorem S_laws_markIntS {X : Ext} (hX : XOk X) (n : Nat) (a0 : List Int) (a1 : Int) : C_laws_markIntS (DD X (n + 1)) a0 a1 = F_laws_markIntS (DD X n) n a0 a1 := (DD_succ X Try.func62 (by kernel_rfl) (hX 62 rfl) n _).trans (E_laws_markIntS ..)
theorem S_laws_markLaneS {X : Ext} (hX : XOk X) (n : Nat) (a0 : List (ByteArray × List Int × Unit)) (a1 : Int) : C_laws_markLaneS (DD X (n + 1)) a0 a1 = F_laws_markLaneS (DD X n) n a0 a1 := (DD_succ X Try.func63 (by kernel_rfl) (hX 63 rfl) n _).trans (E_laws_markLaneS ..)
theorem S_laws_heldIntS {X : Ext} (hX : XOk X) (n : Nat) (a0 : List Int) (a1 : Int) : C_laws_heldIntS (DD X (n + 1)) a0 a1 = F_laws_heldIntS (DD X n) n a0 a1 := (DD_succ X Try.func64 (by kernel_rfl) (hX 64 rfl) n _).trans (E_laws_heldIntS ..)
theorem S_laws_heldLaneS {X : Ext} (hX : XOk X) (n : Nat) (a0 : List (ByteArray × List Int × Unit)) (a1 : Int) : C_laws_heldLaneS (DD X (n + 1)) a0 a1 = F_laws_heldLaneS (DD X n) n a0 a1 := (DD_succ X Try.func65 (by kernel_rfl) (hX 65 rfl) n _).trans (E_laws_heldLaneS ..)
theorem S_laws_markText {X : Ext} (hX : XOk X) (n : Nat) (a0 : Int) : C_laws_markText (DD X (n + 1)) a0 = F_laws_markText (DD X n) n a0 := (DD_succ X Try.func70 (by kernel_rfl) (hX 70 rfl) n _).trans (E_laws_markText ..)
theorem S_spec_l20DrawKey {X : Ext} (hX : XOk X) (n : Nat) (a0 : List Int × Int × Int × Unit) : C_spec_l20DrawKey (DD X (n + 1)) a0 = F_spec_l20DrawKey (DD X n) n a0 := (DD_succ X Try.func71 (by kernel_rfl) (hX 71 rfl) n _).trans (E_spec_l20DrawKey ..)
theorem S_spec_l1New {X : Ext} (hX : XOk X) (n : Nat) (a0 : List Int) : C_spec_l1New (DD X (n + 1)) a0 = F_spec_l1New (DD X n) n a0 := (DD_succ X Try.func72 (by kernel_rfl) (hX 72 rfl) n _).trans (E_spec_l1New ..)
theorem S_impl_copySkip {X : Ext} (hX : XOk X) (n : Nat) (a0 : List Int × List (ByteArray × List Int × Unit) × Unit) : C_impl_copySkip (DD X (n + 1)) a0 = F_impl_copySkip (DD X n) n a0 := (DD_succ X Try.func73 (by kernel_rfl) (hX 73 rfl) n _).trans (E_impl_copySkip ..)
theorem S_impl_ahead {X : Ext} (hX : XOk X) (n : Nat) (a0 : List Int × List (ByteArray × List Int × Unit) × Unit) (a1 : ByteArray) : C_impl_ahead (DD X (n + 1)) a0 a1 = F_impl_ahead (DD X n) n a0 a1 := (DD_succ X Try.func74 (by kernel_rfl) (hX 74 rfl) n _).trans (E_impl_ahead ..)
theorem S_impl_Skip_after {X : Ext} (hX : XOk X) (n : Nat) (a0 : List Int × List (ByteArray × List Int × Unit) × Unit) (a1 : Int) (a2 : Int) : C_impl_Skip_after (DD X (n + 1)) a0 a1 a2 = F_impl_Skip_after (DD X n) n a0 a1 a2 := (DD_succ X Try.func75 (by kernel_rfl) (hX 75 rfl) n _).trans (E_impl_Skip_after ..)
theorem S_impl_Skip_link {X : Ext} (hX : XOk X) (n : Nat) (a0 : List Int × List (ByteArray × List Int × Unit) × Unit) (a1 : Int) (a2 : Int) (a3 : Int) : C_impl_Skip_link (DD X (n + 1)) a0 a1 a2 a3 = F_impl_Skip_link (DD X n) n a0 a1 a2 a3 := (DD_succ X Try.func76 (by kernel_rfl) (hX 76 rfl) n _).trans (E_impl_Skip_link ..)
theorem S_laws_szIntS {X : Ext} (hX : XOk X) (n : Nat) (a0 : List Int) (a1 : Int) : C_laws_szIntS (DD X (n + 1)) a0 a1 = F_laws_szIntS (DD X n) n a0 a1 := (DD_succ X Try.func77 (by kernel_rfl) (hX 77 rfl) n _).trans (E_laws_szIntS ..)
theorem S_laws_szLaneS {X : Ext} (hX : XOk X) (n : Nat) (a0 : List (ByteArray × List Int × Unit)) (a1 : Int) : C_laws_szLaneS (DD X (n + 1)) a0 a1 = F_laws_szLaneS (DD X n) n a0 a1 := (DD_succ X Try.func78 (by kernel_rfl) (hX 78 rfl) n _).trans (E_laws_szLaneS ..)
theorem S_spec_l20Lane {X : Ext} (hX : XOk X) (n : Nat) (a0 : List Int × List (ByteArray × List Int × Unit) × Unit) (a1 : Int) : C_spec_l20Lane (DD X (n + 1)) a0 a1 = F_spec_l20Lane (DD X n) n a0 a1 := (DD_succ X Try.func79 (by kernel_rfl) (hX 79 rfl) n _).trans (E_spec_l20Lane ..)
theorem S_spec_l20In {X : Ext} (hX : XOk X) (n : Nat) (a0 : List Int) (a1 : Int) : C_spec_l20In (DD X (n + 1)) a0 a1 = F_spec_l20In (DD X n) n a0 a1 := (DD_succ X Try.func80 (by kernel_rfl) (hX 80 rfl) n _).trans (E_spec_l20In ..)
theorem S_laws_toIntS {X : Ext} (hX : XOk X) (n : Nat) (a0 : List Int) : C_laws_toIntS (DD X (n + 1)) a0 = F_laws_toIntS (DD X n) n a0 := (DD_succ X Try.func81 (by kernel_rfl) (hX 81 rfl) n _).trans (E_laws_toIntS ..)
theorem S_laws_toLaneS {X : Ext} (hX : XOk X) (n : Nat) (a0 : List (ByteArray × List Int × Unit)) : C_laws_toLaneS (DD X (n + 1)) a0 = F_laws_toLaneS (DD X n) n a0 := (DD_succ X Try.func82 (by kernel_rfl) (hX 82 rfl) n _).trans (E_laws_toLaneS ..)
theorem S_impl_laneOf {X : Ext} (hX : XOk X) (n : Nat) (a0 : List Int × List (ByteArray × List Int × Unit) × Unit) (a1 : Int) : C_impl_laneOf (DD X (n + 1)) a0 a1 = F_impl_laneOf (DD X n) n a0 a1 := (DD_succ X Try.func83 (by kernel_rfl) (hX 83 rfl) n _).trans (E_impl_laneOf ..)
theorem S_spec_l20Draw {X : Ext} (hX : XOk X) (n : Nat) (a0 : List Int × Int × Int × Unit) : C_spec_l20Draw (DD X (n + 1)) a0 = F_spec_l20Draw (DD X n) n a0 := (DD_succ X Try.func87 (by kernel_rfl) (hX 87 rfl) n _).trans (E_spec_l20Draw ..)
theorem S_spec_l20Next {X : Ext} (hX : XOk X) (n : Nat) (a0 : List Int × List (ByteArray × List Int × Unit) × Unit) (a1 : Int) (a2 : Int) : C_spec_l20Next (DD X (n + 1)) a0 a1 a2 = F_spec_l20Next (DD X n) n a0 a1 a2 := (DD_succ X Try.func88 (by kernel_rfl) (hX 88 rfl) n _).trans (E_spec_l20Next ..)
theorem S_spec_l20Copy {X : Ext} (hX : XOk X) (n : Nat) (a0 : List Int × List (ByteArray × List Int × Unit) × Unit) : C_spec_l20Copy (DD X (n + 1)) a0 = F_spec_l20Copy (DD X n) n a0 := (DD_succ X Try.func89 (by kernel_rfl) (hX 89 rfl) n _).trans (E_spec_l20Copy ..)
theorem S_spec_l20Has {X : Ext} (hX : XOk X) (n : Nat) (a0 : List Int × List (ByteArray × List Int × Unit) × Unit) (a1 : ByteArray) : C_spec_l20Has (DD X (n + 1)) a0 a1 = F_spec_l20Has (DD X n) n a0 a1 := (DD_succ X Try.func90 (by kernel_rfl) (hX 90 rfl) n _).trans (E_spec_l20Has ..)
theorem S_spec_l20Before {X : Ext} (hX : XOk X) (n : Nat) (a0 : List Int × List (ByteArray × List Int × Unit) × Unit) (a1 : Int) (a2 : ByteArray) : C_spec_l20Before (DD X (n + 1)) a0 a1 a2 = F_spec_l20Before (DD X n) n a0 a1 a2 := (DD_succ X Try.func91 (by kernel_rfl) (hX 91 rfl) n _).trans (E_spec_l20Before ..)
theorem S_spec_l20Set {X : Ext} (hX : XOk X) (n : Nat) (a0 : List Int × List (ByteArray × List Int × Unit) × Unit) (a1 : Int) (a2 : Int) (a3 : Int) : C_spec_l20Set (DD X (n + 1)) a0 a1 a2 a3 = F_spec_l20Set (DD X n) n a0 a1 a2 a3 := (DD_succ X Try.func92 (by kernel_rfl) (hX 92 rfl) n _).trans (E_spec_l20Set ..)
theorem S_laws_eqLane {X : Ext} (hX : XOk X) (n : Nat) (a0 : ByteArray × List Int × Unit) (a1 : ByteArray × List Int × Unit) : C_laws_eqLane (DD X (n + 1)) a0 a1 = F_laws_eqLane (DD X n) n a0 a1 := (DD_succ X Try.func94 (by kernel_rfl) (hX 94 rfl) n _).trans (E_laws_eqLane ..)
theorem S_spec_l1Pick {X : Ext} (hX : XOk X) (n : Nat) (a0 : List Int × Int × Int × Unit) (a1 : List ByteArray) : C_spec_l1Pick (DD X (n + 1)) a0 a1 = F_spec_l1Pick (DD X n) n a0 a1 := (DD_succ X Try.func95 (by kernel_rfl) (hX 95 rfl) n _).trans (E_spec_l1Pick ..)
theorem S_slices_Clone_int_int {X : Ext} (hX : XOk X) (n : Nat) (a0 : List Int) : C_slices_Clone_int_int (DD X (n + 1)) a0 = F_slices_Clone_int_int (DD X n) n a0 := (DD_succ X Try.func96 (by kernel_rfl) (hX 96 rfl) n _).trans (E_slices_Clone_int_int ..)
theorem S_laws_szLane {X : Ext} (hX : XOk X) (n : Nat) (a0 : ByteArray × List Int × Unit) (a1 : Int) : C_laws_szLane (DD X (n + 1)) a0 a1 = F_laws_szLane (DD X n) n a0 a1 := (DD_succ X Try.func97 (by kernel_rfl) (hX 97 rfl) n _).trans (E_laws_szLane ..)
theorem S_spec_l1In {X : Ext} (hX : XOk X) (n : Nat) (a0 : Int) (a1 : Int) (a2 : Int) : C_spec_l1In (DD X (n + 1)) a0 a1 a2 = F_spec_l1In (DD X n) n a0 a1 a2 := (DD_succ X Try.func98 (by kernel_rfl) (hX 98 rfl) n _).trans (E_spec_l1In ..)
theorem S_spec_l1Bit {X : Ext} (hX : XOk X) (n : Nat) (a0 : Bool) : C_spec_l1Bit (DD X (n + 1)) a0 = F_spec_l1Bit (DD X n) n a0 := (DD_succ X Try.func99 (by kernel_rfl) (hX 99 rfl) n _).trans (E_spec_l1Bit ..)
theorem S_laws_toLane {X : Ext} (hX : XOk X) (n : Nat) (a0 : ByteArray × List Int × Unit) : C_laws_toLane (DD X (n + 1)) a0 = F_laws_toLane (DD X n) n a0 := (DD_succ X Try.func100 (by kernel_rfl) (hX 100 rfl) n _).trans (E_laws_toLane ..)
theorem S_impl_from {X : Ext} (hX : XOk X) (n : Nat) (a0 : Int) (a1 : Int) (a2 : Int) : C_impl_from (DD X (n + 1)) a0 a1 a2 = F_impl_from (DD X n) n a0 a1 a2 := (DD_succ X Try.func101 (by kernel_rfl) (hX 101 rfl) n _).trans (E_impl_from ..)
theorem S_spec_l20DrawRight {X : Ext} (hX : XOk X) (n : Nat) (a0 : List Int × Int × Int × Unit) : C_spec_l20DrawRight (DD X (n + 1)) a0 = F_spec_l20DrawRight (DD X n) n a0 := (DD_succ X Try.func104 (by kernel_rfl) (hX 104 rfl) n _).trans (E_spec_l20DrawRight ..)
theorem S_spec_l1Below {X : Ext} (hX : XOk X) (n : Nat) (a0 : List Int × Int × Int × Unit) (a1 : Int) : C_spec_l1Below (DD X (n + 1)) a0 a1 = F_spec_l1Below (DD X n) n a0 a1 := (DD_succ X Try.func105 (by kernel_rfl) (hX 105 rfl) n _).trans (E_spec_l1Below ..)
theorem S_spec_l1Once {X : Ext} (hX : XOk X) (n : Nat) (a0 : List Int × Int × Int × Unit) (a1 : Int) : C_spec_l1Once (DD X (n + 1)) a0 a1 = F_spec_l1Once (DD X n) n a0 a1 := (DD_succ X Try.func107 (by kernel_rfl) (hX 107 rfl) n _).trans (E_spec_l1Once ..)
theorem S_spec_l1Byte {X : Ext} (hX : XOk X) (n : Nat) (a0 : List Int × Int × Int × Unit) : C_spec_l1Byte (DD X (n + 1)) a0 = F_spec_l1Byte (DD X n) n a0 := (DD_succ X Try.func108 (by kernel_rfl) (hX 108 rfl) n _).trans (E_spec_l1Byte ..)
end Go.G


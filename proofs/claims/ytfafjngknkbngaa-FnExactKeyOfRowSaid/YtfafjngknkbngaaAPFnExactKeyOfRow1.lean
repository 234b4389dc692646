import Derived.Test.YtfafjngknkbngaaAPFnExactKeyOfRow0
set_option linter.unusedVariables false
set_option linter.unusedSimpArgs false
set_option linter.unusedSectionVars false
namespace Go.G
set_option maxRecDepth 100000
set_option maxHeartbeats 0
open Go Go.V
noncomputable def laws_eqValue_e (D : Den ctx) (n : Nat) (a0 : Int × Int × ByteArray × Unit) (a1 : Int × Int × ByteArray × Unit) : Option ((Bool × Unit) × Unit) := br (Prod.fst a0 != Prod.fst a1) (some ((false, ()), ())) (br (Prod.fst (Prod.snd a0) != Prod.fst (Prod.snd a1)) (some ((false, ()), ())) (br (!List.beq (ByteArray.toList (Prod.fst (Prod.snd (Prod.snd a0)))) (ByteArray.toList (Prod.fst (Prod.snd (Prod.snd a1))))) (some ((false, ()), ())) (some ((true, ()), ()))))
noncomputable def F_laws_eqValue (D : Den ctx) (n : Nat) (a0 : Int × Int × ByteArray × Unit) (a1 : Int × Int × ByteArray × Unit) : Option ((Bool × Unit) × Unit) := laws_eqValue_e D n a0 a1
theorem E_laws_eqValue (D : Den ctx) (n : Nat) (a0 : Int × Int × ByteArray × Unit) (a1 : Int × Int × ByteArray × Unit) : rfC funcTab D n 103 (a0, (a1, ())) = F_laws_eqValue D n a0 a1 := by kernel_rfl
end Go.G

namespace Go.G
set_option maxRecDepth 100000
set_option maxHeartbeats 0
open Go Go.V
noncomputable def laws_markColS_b0 (D : Den ctx) (n : Nat) (go : Int → Int → List (ByteArray × Int × Bool × Unit) → Option ((Int × Unit) × List (ByteArray × Int × Bool × Unit) × Unit)) (K0 : Int → List (ByteArray × Int × Bool × Unit) → Option ((Int × Unit) × List (ByteArray × Int × Bool × Unit) × Unit)) (x0 : Int) (x1 : Int) (x2 : List (ByteArray × Int × Bool × Unit)) : Option ((Int × Unit) × List (ByteArray × Int × Bool × Unit) × Unit) := br (decide (x1 < (↑(List.length x2) : Int))) (bindD (C_laws_markText D x0) fun b ↦ br (decide (0 ≤ x1) && decide (x1 < (↑(List.length x2) : Int))) (br (decide (0 ≤ x1) && decide (x1 < (↑(List.length (List.set x2 (Int.toNat x1) (Prod.fst (Prod.fst b), Prod.snd (List.getD x2 (Int.toNat x1) (ByteArray.empty, 0, false, ()))))) : Int))) (br (decide (0 ≤ x1) && decide (x1 < (↑(List.length (List.set (List.set x2 (Int.toNat x1) (Prod.fst (Prod.fst b), Prod.snd (List.getD x2 (Int.toNat x1) (ByteArray.empty, 0, false, ())))) (Int.toNat x1) (Prod.fst (List.getD (List.set x2 (Int.toNat x1) (Prod.fst (Prod.fst b), Prod.snd (List.getD x2 (Int.toNat x1) (ByteArray.empty, 0, false, ())))) (Int.toNat x1) (ByteArray.empty, 0, false, ())), IntKind.wrap IntKind.i64 (x0 + 1), Prod.snd (Prod.snd (List.getD (List.set x2 (Int.toNat x1) (Prod.fst (Prod.fst b), Prod.snd (List.getD x2 (Int.toNat x1) (ByteArray.empty, 0, false, ())))) (Int.toNat x1) (ByteArray.empty, 0, false, ())))))) : Int))) (go (IntKind.wrap IntKind.i64 (IntKind.wrap IntKind.i64 (IntKind.wrap IntKind.i64 (x0 + 1) + 1) + 1)) (IntKind.wrap IntKind.i64 (x1 + 1)) (List.set (List.set (List.set x2 (Int.toNat x1) (Prod.fst (Prod.fst b), Prod.snd (List.getD x2 (Int.toNat x1) (ByteArray.empty, 0, false, ())))) (Int.toNat x1) (Prod.fst (List.getD (List.set x2 (Int.toNat x1) (Prod.fst (Prod.fst b), Prod.snd (List.getD x2 (Int.toNat x1) (ByteArray.empty, 0, false, ())))) (Int.toNat x1) (ByteArray.empty, 0, false, ())), IntKind.wrap IntKind.i64 (x0 + 1), Prod.snd (Prod.snd (List.getD (List.set x2 (Int.toNat x1) (Prod.fst (Prod.fst b), Prod.snd (List.getD x2 (Int.toNat x1) (ByteArray.empty, 0, false, ())))) (Int.toNat x1) (ByteArray.empty, 0, false, ()))))) (Int.toNat x1) (Prod.fst (List.getD (List.set (List.set x2 (Int.toNat x1) (Prod.fst (Prod.fst b), Prod.snd (List.getD x2 (Int.toNat x1) (ByteArray.empty, 0, false, ())))) (Int.toNat x1) (Prod.fst (List.getD (List.set x2 (Int.toNat x1) (Prod.fst (Prod.fst b), Prod.snd (List.getD x2 (Int.toNat x1) (ByteArray.empty, 0, false, ())))) (Int.toNat x1) (ByteArray.empty, 0, false, ())), IntKind.wrap IntKind.i64 (x0 + 1), Prod.snd (Prod.snd (List.getD (List.set x2 (Int.toNat x1) (Prod.fst (Prod.fst b), Prod.snd (List.getD x2 (Int.toNat x1) (ByteArray.empty, 0, false, ())))) (Int.toNat x1) (ByteArray.empty, 0, false, ()))))) (Int.toNat x1) (ByteArray.empty, 0, false, ())), Prod.fst (Prod.snd (List.getD (List.set (List.set x2 (Int.toNat x1) (Prod.fst (Prod.fst b), Prod.snd (List.getD x2 (Int.toNat x1) (ByteArray.empty, 0, false, ())))) (Int.toNat x1) (Prod.fst (List.getD (List.set x2 (Int.toNat x1) (Prod.fst (Prod.fst b), Prod.snd (List.getD x2 (Int.toNat x1) (ByteArray.empty, 0, false, ())))) (Int.toNat x1) (ByteArray.empty, 0, false, ())), IntKind.wrap IntKind.i64 (x0 + 1), Prod.snd (Prod.snd (List.getD (List.set x2 (Int.toNat x1) (Prod.fst (Prod.fst b), Prod.snd (List.getD x2 (Int.toNat x1) (ByteArray.empty, 0, false, ())))) (Int.toNat x1) (ByteArray.empty, 0, false, ()))))) (Int.toNat x1) (ByteArray.empty, 0, false, ()))), decide (Int.tmod (IntKind.wrap IntKind.i64 (IntKind.wrap IntKind.i64 (x0 + 1) + 1)) 3 = 0), Prod.snd (Prod.snd (Prod.snd (List.getD (List.set (List.set x2 (Int.toNat x1) (Prod.fst (Prod.fst b), Prod.snd (List.getD x2 (Int.toNat x1) (ByteArray.empty, 0, false, ())))) (Int.toNat x1) (Prod.fst (List.getD (List.set x2 (Int.toNat x1) (Prod.fst (Prod.fst b), Prod.snd (List.getD x2 (Int.toNat x1) (ByteArray.empty, 0, false, ())))) (Int.toNat x1) (ByteArray.empty, 0, false, ())), IntKind.wrap IntKind.i64 (x0 + 1), Prod.snd (Prod.snd (List.getD (List.set x2 (Int.toNat x1) (Prod.fst (Prod.fst b), Prod.snd (List.getD x2 (Int.toNat x1) (ByteArray.empty, 0, false, ())))) (Int.toNat x1) (ByteArray.empty, 0, false, ()))))) (Int.toNat x1) (ByteArray.empty, 0, false, ()))))))) none) none) none) (K0 x0 x2)
noncomputable def laws_markColS_L0 (D : Den ctx) (n : Nat) (K0 : Int → List (ByteArray × Int × Bool × Unit) → Option ((Int × Unit) × List (ByteArray × Int × Bool × Unit) × Unit)) : Nat → (Int) → (Int) → (List (ByteArray × Int × Bool × Unit)) → Option ((Int × Unit) × List (ByteArray × Int × Bool × Unit) × Unit) | 0 => (fun x0 x1 x2 => none) | m + 1 => (fun x0 x1 x2 => laws_markColS_b0 D n (laws_markColS_L0 D n K0 m) K0 x0 x1 x2)
noncomputable def laws_markColS_x0_0 (D : Den ctx) (n : Nat) (v0_0 : Int) (v0_1 : List (ByteArray × Int × Bool × Unit)) : Option ((Int × Unit) × List (ByteArray × Int × Bool × Unit) × Unit) := some ((v0_0, ()), v0_1, ())
noncomputable def laws_markColS_LP0 (D : Den ctx) (n : Nat) : (Int) → (Int) → (List (ByteArray × Int × Bool × Unit)) → Option ((Int × Unit) × List (ByteArray × Int × Bool × Unit) × Unit) := (fun x0 x1 x2 => laws_markColS_L0 D n (fun v0_0 v0_1 => laws_markColS_x0_0 D n v0_0 v0_1) n x0 x1 x2)
noncomputable def laws_markColS_e (D : Den ctx) (n : Nat) (lp0 : Int → Int → List (ByteArray × Int × Bool × Unit) → Option ((Int × Unit) × List (ByteArray × Int × Bool × Unit) × Unit)) (a0 : List (ByteArray × Int × Bool × Unit)) (a1 : Int) : Option ((Int × Unit) × List (ByteArray × Int × Bool × Unit) × Unit) := lp0 a1 0 a0
noncomputable def F_laws_markColS (D : Den ctx) (n : Nat) (a0 : List (ByteArray × Int × Bool × Unit)) (a1 : Int) : Option ((Int × Unit) × List (ByteArray × Int × Bool × Unit) × Unit) := laws_markColS_e D n (laws_markColS_LP0 D n) a0 a1
def laws_markColS_Q0 (x0 : Int) (x1 : Int) (x2 : List (ByteArray × Int × Bool × Unit)) : St := stq 37 [(0, AV.brw 0 [] 1048576), (1, AV.val (Ty.int IntKind.i64) x0), (5, AV.val (Ty.int IntKind.i64) x1)] [(0, Root.mk (Ty.sl (Ty.pair Ty.str (Ty.pair (Ty.int IntKind.i64) (Ty.pair Ty.bool Ty.unit)))) (Mk.own 1048576 (Mk.pr Mk.no (Mk.pr Mk.no (Mk.pr Mk.no Mk.no)))) x2 false)]
def laws_markColS_Q0_0 (v0_0 : Int) (v0_1 : List (ByteArray × Int × Bool × Unit)) : St := stq 37 [(0, AV.brw 0 [] 1048576), (1, AV.val (Ty.int IntKind.i64) v0_0)] [(0, Root.mk (Ty.sl (Ty.pair Ty.str (Ty.pair (Ty.int IntKind.i64) (Ty.pair Ty.bool Ty.unit)))) (Mk.own 1048576 (Mk.pr Mk.no (Mk.pr Mk.no (Mk.pr Mk.no Mk.no)))) v0_1 false)]
theorem laws_markColS_SB0 (D : Den ctx) (n : Nat) (m : Nat) (K : Ex → St → Option (Out ctx 104)) (x0 : Int) (x1 : Int) (x2 : List (ByteArray × Int × Bool × Unit)) :
  LQ funcTab D n 104 [.r, .l, .r, .l] (m + 1) (laws_markColS_Q0 x0 x1 x2) K = laws_markColS_b0 D n (fun x0 x1 x2 => LQ funcTab D n 104 [.r, .l, .r, .l] m (laws_markColS_Q0 x0 x1 x2) K) (fun v0_0 v0_1 => K (Ex.exit 0) (laws_markColS_Q0_0 v0_0 v0_1)) x0 x1 x2 := by kernel_rfl
theorem laws_markColS_EL0 (D : Den ctx) (n : Nat) (K : Ex → St → Option (Out ctx 104)) : ∀ (m : Nat) (x0 : Int) (x1 : Int) (x2 : List (ByteArray × Int × Bool × Unit)), LQ funcTab D n 104 [.r, .l, .r, .l] m (laws_markColS_Q0 x0 x1 x2) K = laws_markColS_L0 D n (fun v0_0 v0_1 => K (Ex.exit 0) (laws_markColS_Q0_0 v0_0 v0_1)) m x0 x1 x2
  | 0, x0, x1, x2 => LQ_zero ..
  | m + 1, x0, x1, x2 => by
    have ih : (fun x0 x1 x2 => LQ funcTab D n 104 [.r, .l, .r, .l] m (laws_markColS_Q0 x0 x1 x2) K) = laws_markColS_L0 D n (fun v0_0 v0_1 => K (Ex.exit 0) (laws_markColS_Q0_0 v0_0 v0_1)) m := by funext x0 x1 x2; exact laws_markColS_EL0 D n K m x0 x1 x2
    rw [laws_markColS_SB0]
    rw [ih]; rfl
theorem laws_markColS_X0_0 (D : Den ctx) (n : Nat) (v0_0 : Int) (v0_1 : List (ByteArray × Int × Bool × Unit)) :
  (CQ funcTab D n 104 [] [.r, .l, .r, .l] (lastK funcTab 104)) (Ex.exit 0) (laws_markColS_Q0_0 v0_0 v0_1) = laws_markColS_x0_0 D n v0_0 v0_1 := by kernel_rfl
theorem laws_markColS_ELP0 (D : Den ctx) (n : Nat) (x0 : Int) (x1 : Int) (x2 : List (ByteArray × Int × Bool × Unit)) :
  LQ funcTab D n 104 [.r, .l, .r, .l] n (laws_markColS_Q0 x0 x1 x2) (CQ funcTab D n 104 [] [.r, .l, .r, .l] (lastK funcTab 104)) = laws_markColS_LP0 D n x0 x1 x2 := by
  rw [laws_markColS_EL0]
  simp only [laws_markColS_X0_0]
  rfl
theorem E_laws_markColS (D : Den ctx) (n : Nat) (a0 : List (ByteArray × Int × Bool × Unit)) (a1 : Int) : rfC funcTab D n 104 (a0, (a1, ())) = F_laws_markColS D n a0 a1 := by
  have h : rfC funcTab D n 104 (a0, (a1, ())) = laws_markColS_e D n (fun x0 x1 x2 => LQ funcTab D n 104 [.r, .l, .r, .l] n (laws_markColS_Q0 x0 x1 x2) (CQ funcTab D n 104 [] [.r, .l, .r, .l] (lastK funcTab 104))) a0 a1 := by kernel_rfl
  rw [h]
  simp only [laws_markColS_ELP0]
  rfl
end Go.G

namespace Go.G
set_option maxRecDepth 100000
set_option maxHeartbeats 0
open Go Go.V
noncomputable def laws_markIntS_b0 (D : Den ctx) (n : Nat) (go : Int → Int → List Int → Option ((Int × Unit) × List Int × Unit)) (K0 : Int → List Int → Option ((Int × Unit) × List Int × Unit)) (x0 : Int) (x1 : Int) (x2 : List Int) : Option ((Int × Unit) × List Int × Unit) := br (decide (x1 < (↑(List.length x2) : Int))) (br (decide (0 ≤ x1) && decide (x1 < (↑(List.length x2) : Int))) (go (IntKind.wrap IntKind.i64 (x0 + 1)) (IntKind.wrap IntKind.i64 (x1 + 1)) (List.set x2 (Int.toNat x1) x0)) none) (K0 x0 x2)
noncomputable def laws_markIntS_L0 (D : Den ctx) (n : Nat) (K0 : Int → List Int → Option ((Int × Unit) × List Int × Unit)) : Nat → (Int) → (Int) → (List Int) → Option ((Int × Unit) × List Int × Unit) | 0 => (fun x0 x1 x2 => none) | m + 1 => (fun x0 x1 x2 => laws_markIntS_b0 D n (laws_markIntS_L0 D n K0 m) K0 x0 x1 x2)
noncomputable def laws_markIntS_x0_0 (D : Den ctx) (n : Nat) (v0_0 : Int) (v0_1 : List Int) : Option ((Int × Unit) × List Int × Unit) := some ((v0_0, ()), v0_1, ())
noncomputable def laws_markIntS_LP0 (D : Den ctx) (n : Nat) : (Int) → (Int) → (List Int) → Option ((Int × Unit) × List Int × Unit) := (fun x0 x1 x2 => laws_markIntS_L0 D n (fun v0_0 v0_1 => laws_markIntS_x0_0 D n v0_0 v0_1) n x0 x1 x2)
noncomputable def laws_markIntS_e (D : Den ctx) (n : Nat) (lp0 : Int → Int → List Int → Option ((Int × Unit) × List Int × Unit)) (a0 : List Int) (a1 : Int) : Option ((Int × Unit) × List Int × Unit) := lp0 a1 0 a0
noncomputable def F_laws_markIntS (D : Den ctx) (n : Nat) (a0 : List Int) (a1 : Int) : Option ((Int × Unit) × List Int × Unit) := laws_markIntS_e D n (laws_markIntS_LP0 D n) a0 a1
def laws_markIntS_Q0 (x0 : Int) (x1 : Int) (x2 : List Int) : St := stq 19 [(0, AV.brw 0 [] 1048576), (1, AV.val (Ty.int IntKind.i64) x0), (5, AV.val (Ty.int IntKind.i64) x1)] [(0, Root.mk (Ty.sl (Ty.int IntKind.i64)) (Mk.own 1048576 Mk.no) x2 false)]
def laws_markIntS_Q0_0 (v0_0 : Int) (v0_1 : List Int) : St := stq 19 [(0, AV.brw 0 [] 1048576), (1, AV.val (Ty.int IntKind.i64) v0_0)] [(0, Root.mk (Ty.sl (Ty.int IntKind.i64)) (Mk.own 1048576 Mk.no) v0_1 false)]
theorem laws_markIntS_SB0 (D : Den ctx) (n : Nat) (m : Nat) (K : Ex → St → Option (Out ctx 105)) (x0 : Int) (x1 : Int) (x2 : List Int) :
  LQ funcTab D n 105 [.r, .l, .r, .l] (m + 1) (laws_markIntS_Q0 x0 x1 x2) K = laws_markIntS_b0 D n (fun x0 x1 x2 => LQ funcTab D n 105 [.r, .l, .r, .l] m (laws_markIntS_Q0 x0 x1 x2) K) (fun v0_0 v0_1 => K (Ex.exit 0) (laws_markIntS_Q0_0 v0_0 v0_1)) x0 x1 x2 := by kernel_rfl
theorem laws_markIntS_EL0 (D : Den ctx) (n : Nat) (K : Ex → St → Option (Out ctx 105)) : ∀ (m : Nat) (x0 : Int) (x1 : Int) (x2 : List Int), LQ funcTab D n 105 [.r, .l, .r, .l] m (laws_markIntS_Q0 x0 x1 x2) K = laws_markIntS_L0 D n (fun v0_0 v0_1 => K (Ex.exit 0) (laws_markIntS_Q0_0 v0_0 v0_1)) m x0 x1 x2
  | 0, x0, x1, x2 => LQ_zero ..
  | m + 1, x0, x1, x2 => by
    have ih : (fun x0 x1 x2 => LQ funcTab D n 105 [.r, .l, .r, .l] m (laws_markIntS_Q0 x0 x1 x2) K) = laws_markIntS_L0 D n (fun v0_0 v0_1 => K (Ex.exit 0) (laws_markIntS_Q0_0 v0_0 v0_1)) m := by funext x0 x1 x2; exact laws_markIntS_EL0 D n K m x0 x1 x2
    rw [laws_markIntS_SB0]
    rw [ih]; rfl
theorem laws_markIntS_X0_0 (D : Den ctx) (n : Nat) (v0_0 : Int) (v0_1 : List Int) :
  (CQ funcTab D n 105 [] [.r, .l, .r, .l] (lastK funcTab 105)) (Ex.exit 0) (laws_markIntS_Q0_0 v0_0 v0_1) = laws_markIntS_x0_0 D n v0_0 v0_1 := by kernel_rfl
theorem laws_markIntS_ELP0 (D : Den ctx) (n : Nat) (x0 : Int) (x1 : Int) (x2 : List Int) :
  LQ funcTab D n 105 [.r, .l, .r, .l] n (laws_markIntS_Q0 x0 x1 x2) (CQ funcTab D n 105 [] [.r, .l, .r, .l] (lastK funcTab 105)) = laws_markIntS_LP0 D n x0 x1 x2 := by
  rw [laws_markIntS_EL0]
  simp only [laws_markIntS_X0_0]
  rfl
theorem E_laws_markIntS (D : Den ctx) (n : Nat) (a0 : List Int) (a1 : Int) : rfC funcTab D n 105 (a0, (a1, ())) = F_laws_markIntS D n a0 a1 := by
  have h : rfC funcTab D n 105 (a0, (a1, ())) = laws_markIntS_e D n (fun x0 x1 x2 => LQ funcTab D n 105 [.r, .l, .r, .l] n (laws_markIntS_Q0 x0 x1 x2) (CQ funcTab D n 105 [] [.r, .l, .r, .l] (lastK funcTab 105))) a0 a1 := by kernel_rfl
  rw [h]
  simp only [laws_markIntS_ELP0]
  rfl
end Go.G

namespace Go.G
set_option maxRecDepth 100000
set_option maxHeartbeats 0
open Go Go.V
noncomputable def laws_markIndexS_b0 (D : Den ctx) (n : Nat) (go : Int → Int → List (ByteArray × List Int × Bool × Unit) → Option ((Int × Unit) × List (ByteArray × List Int × Bool × Unit) × Unit)) (K0 : Int → List (ByteArray × List Int × Bool × Unit) → Option ((Int × Unit) × List (ByteArray × List Int × Bool × Unit) × Unit)) (x0 : Int) (x1 : Int) (x2 : List (ByteArray × List Int × Bool × Unit)) : Option ((Int × Unit) × List (ByteArray × List Int × Bool × Unit) × Unit) := br (decide (x1 < (↑(List.length x2) : Int))) (bindD (C_laws_markText D x0) fun b ↦ br (decide (0 ≤ x1) && decide (x1 < (↑(List.length x2) : Int))) (br (decide (0 ≤ x1) && decide (x1 < (↑(List.length (List.set x2 (Int.toNat x1) (Prod.fst (Prod.fst b), Prod.snd (List.getD x2 (Int.toNat x1) (ByteArray.empty, [], false, ()))))) : Int))) (bindD (C_laws_markIntS D (Prod.fst (Prod.snd (List.getD (List.set x2 (Int.toNat x1) (Prod.fst (Prod.fst b), Prod.snd (List.getD x2 (Int.toNat x1) (ByteArray.empty, [], false, ())))) (Int.toNat x1) (ByteArray.empty, [], false, ())))) (IntKind.wrap IntKind.i64 (x0 + 1))) fun b_1 ↦ br (lendsOk [PK.mutv (Ty.sl (Ty.int IntKind.i64)) (Mk.top (Ty.sl (Ty.int IntKind.i64))) (Mk.top (Ty.sl (Ty.int IntKind.i64))), PK.val (Ty.int IntKind.i64)] (List.map (ev (St.mk [AV.brw 0 [] 1048576, AV.val (Ty.int IntKind.i64) (IntKind.wrap IntKind.i64 (x0 + 1)), AV.undef, AV.undef, AV.undef, AV.val (Ty.int IntKind.i64) x1, AV.val (Ty.int IntKind.i64) x1, AV.brw 0 [] 1048576, AV.val (Ty.int IntKind.i64) (↑(List.length x2) : Int), AV.val Ty.bool (decide (x1 < (↑(List.length x2) : Int))), AV.undef, AV.undef, AV.brw 0 [] 1048576, AV.val (Ty.int IntKind.i64) x1, AV.val (Ty.int IntKind.i64) x0, AV.val Ty.str (Prod.fst (Prod.fst b)), AV.addr 0 [Stp.idx (Int.toNat x1) 1048576], AV.addr 0 [Stp.idx (Int.toNat x1) 1048576, Stp.fst], AV.val (Ty.int IntKind.i64) x0, AV.val (Ty.int IntKind.i64) (IntKind.wrap IntKind.i64 (x0 + 1)), AV.brw 0 [] 1048576, AV.val (Ty.int IntKind.i64) x1, AV.addr 0 [Stp.idx (Int.toNat x1) 1048576], AV.addr 0 [Stp.idx (Int.toNat x1) 1048576, Stp.snd, Stp.fst], AV.brw 0 [Stp.idx (Int.toNat x1) 1048576, Stp.snd, Stp.fst] 0, AV.val (Ty.int IntKind.i64) (IntKind.wrap IntKind.i64 (x0 + 1)), AV.undef, AV.undef, AV.undef, AV.undef, AV.undef, AV.undef, AV.undef, AV.undef, AV.undef, AV.undef, AV.undef] [some (Root.mk (Ty.sl (Ty.pair Ty.str (Ty.pair (Ty.sl (Ty.int IntKind.i64)) (Ty.pair Ty.bool Ty.unit)))) (Mk.own 1048576 (Mk.pr Mk.no (Mk.pr (Mk.own 0 Mk.no) (Mk.pr Mk.no Mk.no)))) (List.set x2 (Int.toNat x1) (Prod.fst (Prod.fst b), Prod.snd (List.getD x2 (Int.toNat x1) (ByteArray.empty, [], false, ())))) false), none, none, none, none, none, none, none, none, none, none, none, none, none, none, none, none, none, none, none, none, none, none, none, none, none, none, none, none, none, none, none, none, none, none, none, none])) [Operand.tmp 24, Operand.tmp 25] ++ avList AV.unit)) (br (decide (0 ≤ x1) && decide (x1 < (↑(List.length (List.set (List.set x2 (Int.toNat x1) (Prod.fst (Prod.fst b), Prod.snd (List.getD x2 (Int.toNat x1) (ByteArray.empty, [], false, ())))) (Int.toNat x1) (Prod.fst (List.getD (List.set x2 (Int.toNat x1) (Prod.fst (Prod.fst b), Prod.snd (List.getD x2 (Int.toNat x1) (ByteArray.empty, [], false, ())))) (Int.toNat x1) (ByteArray.empty, [], false, ())), Prod.fst (Prod.snd b_1), Prod.snd (Prod.snd (List.getD (List.set x2 (Int.toNat x1) (Prod.fst (Prod.fst b), Prod.snd (List.getD x2 (Int.toNat x1) (ByteArray.empty, [], false, ())))) (Int.toNat x1) (ByteArray.empty, [], false, ())))))) : Int))) (go (IntKind.wrap IntKind.i64 (Prod.fst (Prod.fst b_1) + 1)) (IntKind.wrap IntKind.i64 (x1 + 1)) (List.set (List.set (List.set x2 (Int.toNat x1) (Prod.fst (Prod.fst b), Prod.snd (List.getD x2 (Int.toNat x1) (ByteArray.empty, [], false, ())))) (Int.toNat x1) (Prod.fst (List.getD (List.set x2 (Int.toNat x1) (Prod.fst (Prod.fst b), Prod.snd (List.getD x2 (Int.toNat x1) (ByteArray.empty, [], false, ())))) (Int.toNat x1) (ByteArray.empty, [], false, ())), Prod.fst (Prod.snd b_1), Prod.snd (Prod.snd (List.getD (List.set x2 (Int.toNat x1) (Prod.fst (Prod.fst b), Prod.snd (List.getD x2 (Int.toNat x1) (ByteArray.empty, [], false, ())))) (Int.toNat x1) (ByteArray.empty, [], false, ()))))) (Int.toNat x1) (Prod.fst (List.getD (List.set (List.set x2 (Int.toNat x1) (Prod.fst (Prod.fst b), Prod.snd (List.getD x2 (Int.toNat x1) (ByteArray.empty, [], false, ())))) (Int.toNat x1) (Prod.fst (List.getD (List.set x2 (Int.toNat x1) (Prod.fst (Prod.fst b), Prod.snd (List.getD x2 (Int.toNat x1) (ByteArray.empty, [], false, ())))) (Int.toNat x1) (ByteArray.empty, [], false, ())), Prod.fst (Prod.snd b_1), Prod.snd (Prod.snd (List.getD (List.set x2 (Int.toNat x1) (Prod.fst (Prod.fst b), Prod.snd (List.getD x2 (Int.toNat x1) (ByteArray.empty, [], false, ())))) (Int.toNat x1) (ByteArray.empty, [], false, ()))))) (Int.toNat x1) (ByteArray.empty, [], false, ())), Prod.fst (Prod.snd (List.getD (List.set (List.set x2 (Int.toNat x1) (Prod.fst (Prod.fst b), Prod.snd (List.getD x2 (Int.toNat x1) (ByteArray.empty, [], false, ())))) (Int.toNat x1) (Prod.fst (List.getD (List.set x2 (Int.toNat x1) (Prod.fst (Prod.fst b), Prod.snd (List.getD x2 (Int.toNat x1) (ByteArray.empty, [], false, ())))) (Int.toNat x1) (ByteArray.empty, [], false, ())), Prod.fst (Prod.snd b_1), Prod.snd (Prod.snd (List.getD (List.set x2 (Int.toNat x1) (Prod.fst (Prod.fst b), Prod.snd (List.getD x2 (Int.toNat x1) (ByteArray.empty, [], false, ())))) (Int.toNat x1) (ByteArray.empty, [], false, ()))))) (Int.toNat x1) (ByteArray.empty, [], false, ()))), decide (Int.tmod (Prod.fst (Prod.fst b_1)) 3 = 0), Prod.snd (Prod.snd (Prod.snd (List.getD (List.set (List.set x2 (Int.toNat x1) (Prod.fst (Prod.fst b), Prod.snd (List.getD x2 (Int.toNat x1) (ByteArray.empty, [], false, ())))) (Int.toNat x1) (Prod.fst (List.getD (List.set x2 (Int.toNat x1) (Prod.fst (Prod.fst b), Prod.snd (List.getD x2 (Int.toNat x1) (ByteArray.empty, [], false, ())))) (Int.toNat x1) (ByteArray.empty, [], false, ())), Prod.fst (Prod.snd b_1), Prod.snd (Prod.snd (List.getD (List.set x2 (Int.toNat x1) (Prod.fst (Prod.fst b), Prod.snd (List.getD x2 (Int.toNat x1) (ByteArray.empty, [], false, ())))) (Int.toNat x1) (ByteArray.empty, [], false, ()))))) (Int.toNat x1) (ByteArray.empty, [], false, ()))))))) none) none) none) none) (K0 x0 x2)
noncomputable def laws_markIndexS_L0 (D : Den ctx) (n : Nat) (K0 : Int → List (ByteArray × List Int × Bool × Unit) → Option ((Int × Unit) × List (ByteArray × List Int × Bool × Unit) × Unit)) : Nat → (Int) → (Int) → (List (ByteArray × List Int × Bool × Unit)) → Option ((Int × Unit) × List (ByteArray × List Int × Bool × Unit) × Unit) | 0 => (fun x0 x1 x2 => none) | m + 1 => (fun x0 x1 x2 => laws_markIndexS_b0 D n (laws_markIndexS_L0 D n K0 m) K0 x0 x1 x2)
noncomputable def laws_markIndexS_x0_0 (D : Den ctx) (n : Nat) (v0_0 : Int) (v0_1 : List (ByteArray × List Int × Bool × Unit)) : Option ((Int × Unit) × List (ByteArray × List Int × Bool × Unit) × Unit) := some ((v0_0, ()), v0_1, ())
noncomputable def laws_markIndexS_LP0 (D : Den ctx) (n : Nat) : (Int) → (Int) → (List (ByteArray × List Int × Bool × Unit)) → Option ((Int × Unit) × List (ByteArray × List Int × Bool × Unit) × Unit) := (fun x0 x1 x2 => laws_markIndexS_L0 D n (fun v0_0 v0_1 => laws_markIndexS_x0_0 D n v0_0 v0_1) n x0 x1 x2)
noncomputable def laws_markIndexS_e (D : Den ctx) (n : Nat) (lp0 : Int → Int → List (ByteArray × List Int × Bool × Unit) → Option ((Int × Unit) × List (ByteArray × List Int × Bool × Unit) × Unit)) (a0 : List (ByteArray × List Int × Bool × Unit)) (a1 : Int) : Option ((Int × Unit) × List (ByteArray × List Int × Bool × Unit) × Unit) := lp0 a1 0 a0
noncomputable def F_laws_markIndexS (D : Den ctx) (n : Nat) (a0 : List (ByteArray × List Int × Bool × Unit)) (a1 : Int) : Option ((Int × Unit) × List (ByteArray × List Int × Bool × Unit) × Unit) := laws_markIndexS_e D n (laws_markIndexS_LP0 D n) a0 a1
def laws_markIndexS_Q0 (x0 : Int) (x1 : Int) (x2 : List (ByteArray × List Int × Bool × Unit)) : St := stq 37 [(0, AV.brw 0 [] 1048576), (1, AV.val (Ty.int IntKind.i64) x0), (5, AV.val (Ty.int IntKind.i64) x1)] [(0, Root.mk (Ty.sl (Ty.pair Ty.str (Ty.pair (Ty.sl (Ty.int IntKind.i64)) (Ty.pair Ty.bool Ty.unit)))) (Mk.own 1048576 (Mk.pr Mk.no (Mk.pr (Mk.own 0 Mk.no) (Mk.pr Mk.no Mk.no)))) x2 false)]
def laws_markIndexS_Q0_0 (v0_0 : Int) (v0_1 : List (ByteArray × List Int × Bool × Unit)) : St := stq 37 [(0, AV.brw 0 [] 1048576), (1, AV.val (Ty.int IntKind.i64) v0_0)] [(0, Root.mk (Ty.sl (Ty.pair Ty.str (Ty.pair (Ty.sl (Ty.int IntKind.i64)) (Ty.pair Ty.bool Ty.unit)))) (Mk.own 1048576 (Mk.pr Mk.no (Mk.pr (Mk.own 0 Mk.no) (Mk.pr Mk.no Mk.no)))) v0_1 false)]
theorem laws_markIndexS_SB0 (D : Den ctx) (n : Nat) (m : Nat) (K : Ex → St → Option (Out ctx 106)) (x0 : Int) (x1 : Int) (x2 : List (ByteArray × List Int × Bool × Unit)) :
  LQ funcTab D n 106 [.r, .l, .r, .l] (m + 1) (laws_markIndexS_Q0 x0 x1 x2) K = laws_markIndexS_b0 D n (fun x0 x1 x2 => LQ funcTab D n 106 [.r, .l, .r, .l] m (laws_markIndexS_Q0 x0 x1 x2) K) (fun v0_0 v0_1 => K (Ex.exit 0) (laws_markIndexS_Q0_0 v0_0 v0_1)) x0 x1 x2 := by kernel_rfl
theorem laws_markIndexS_EL0 (D : Den ctx) (n : Nat) (K : Ex → St → Option (Out ctx 106)) : ∀ (m : Nat) (x0 : Int) (x1 : Int) (x2 : List (ByteArray × List Int × Bool × Unit)), LQ funcTab D n 106 [.r, .l, .r, .l] m (laws_markIndexS_Q0 x0 x1 x2) K = laws_markIndexS_L0 D n (fun v0_0 v0_1 => K (Ex.exit 0) (laws_markIndexS_Q0_0 v0_0 v0_1)) m x0 x1 x2
  | 0, x0, x1, x2 => LQ_zero ..
  | m + 1, x0, x1, x2 => by
    have ih : (fun x0 x1 x2 => LQ funcTab D n 106 [.r, .l, .r, .l] m (laws_markIndexS_Q0 x0 x1 x2) K) = laws_markIndexS_L0 D n (fun v0_0 v0_1 => K (Ex.exit 0) (laws_markIndexS_Q0_0 v0_0 v0_1)) m := by funext x0 x1 x2; exact laws_markIndexS_EL0 D n K m x0 x1 x2
    rw [laws_markIndexS_SB0]
    rw [ih]; rfl
theorem laws_markIndexS_X0_0 (D : Den ctx) (n : Nat) (v0_0 : Int) (v0_1 : List (ByteArray × List Int × Bool × Unit)) :
  (CQ funcTab D n 106 [] [.r, .l, .r, .l] (lastK funcTab 106)) (Ex.exit 0) (laws_markIndexS_Q0_0 v0_0 v0_1) = laws_markIndexS_x0_0 D n v0_0 v0_1 := by kernel_rfl
theorem laws_markIndexS_ELP0 (D : Den ctx) (n : Nat) (x0 : Int) (x1 : Int) (x2 : List (ByteArray × List Int × Bool × Unit)) :
  LQ funcTab D n 106 [.r, .l, .r, .l] n (laws_markIndexS_Q0 x0 x1 x2) (CQ funcTab D n 106 [] [.r, .l, .r, .l] (lastK funcTab 106)) = laws_markIndexS_LP0 D n x0 x1 x2 := by
  rw [laws_markIndexS_EL0]
  simp only [laws_markIndexS_X0_0]
  rfl
theorem E_laws_markIndexS (D : Den ctx) (n : Nat) (a0 : List (ByteArray × List Int × Bool × Unit)) (a1 : Int) : rfC funcTab D n 106 (a0, (a1, ())) = F_laws_markIndexS D n a0 a1 := by
  have h : rfC funcTab D n 106 (a0, (a1, ())) = laws_markIndexS_e D n (fun x0 x1 x2 => LQ funcTab D n 106 [.r, .l, .r, .l] n (laws_markIndexS_Q0 x0 x1 x2) (CQ funcTab D n 106 [] [.r, .l, .r, .l] (lastK funcTab 106))) a0 a1 := by kernel_rfl
  rw [h]
  simp only [laws_markIndexS_ELP0]
  rfl
end Go.G

namespace Go.G
set_option maxRecDepth 100000
set_option maxHeartbeats 0
open Go Go.V
noncomputable def laws_markText_b0 (D : Den ctx) (n : Nat) (go : Int → ByteArray → Option ((ByteArray × Unit) × Unit)) (K0 : ByteArray → Option ((ByteArray × Unit) × Unit)) (x0 : Int) (x1 : ByteArray) : Option ((ByteArray × Unit) × Unit) := br (decide (x0 > 0)) (br (decide (ByteArray.size (ByteArray.mk (List.toArray (List.map (fun n ↦ UInt8.ofNat (Int.toNat n)) [IntKind.wrap IntKind.u8 (IntKind.wrap IntKind.i64 (48 + Int.tmod x0 10))]))) + ByteArray.size x1 ≤ Nat.pow 2 47)) (go (IntKind.wrap IntKind.i64 (Int.tdiv x0 10)) (ByteArray.append (ByteArray.mk (List.toArray (List.map (fun n ↦ UInt8.ofNat (Int.toNat n)) [IntKind.wrap IntKind.u8 (IntKind.wrap IntKind.i64 (48 + Int.tmod x0 10))]))) x1)) none) (K0 x1)
noncomputable def laws_markText_L0 (D : Den ctx) (n : Nat) (K0 : ByteArray → Option ((ByteArray × Unit) × Unit)) : Nat → (Int) → (ByteArray) → Option ((ByteArray × Unit) × Unit) | 0 => (fun x0 x1 => none) | m + 1 => (fun x0 x1 => laws_markText_b0 D n (laws_markText_L0 D n K0 m) K0 x0 x1)
noncomputable def laws_markText_x0_0 (D : Den ctx) (n : Nat) (v0_0 : ByteArray) : Option ((ByteArray × Unit) × Unit) := br (decide (ByteArray.size (ByteArray.mk #[UInt8.ofNat 109]) + ByteArray.size v0_0 ≤ Nat.pow 2 47)) (some ((ByteArray.append (ByteArray.mk #[UInt8.ofNat 109]) v0_0, ()), ())) none
noncomputable def laws_markText_LP0 (D : Den ctx) (n : Nat) : (Int) → (ByteArray) → Option ((ByteArray × Unit) × Unit) := (fun x0 x1 => laws_markText_L0 D n (fun v0_0 => laws_markText_x0_0 D n v0_0) n x0 x1)
noncomputable def laws_markText_e (D : Den ctx) (n : Nat) (lp0 : Int → ByteArray → Option ((ByteArray × Unit) × Unit)) (a0 : Int) : Option ((ByteArray × Unit) × Unit) := br (decide (a0 ≤ 0)) (some ((ByteArray.mk #[UInt8.ofNat 109, UInt8.ofNat 48], ()), ())) (lp0 a0 (ByteArray.mk #[]))
noncomputable def F_laws_markText (D : Den ctx) (n : Nat) (a0 : Int) : Option ((ByteArray × Unit) × Unit) := laws_markText_e D n (laws_markText_LP0 D n) a0
def laws_markText_Q0 (x0 : Int) (x1 : ByteArray) : St := stq 20 [(0, AV.val (Ty.int IntKind.i64) x0), (3, AV.val Ty.str x1)] []
def laws_markText_Q0_0 (v0_0 : ByteArray) : St := stq 20 [(3, AV.val Ty.str v0_0)] []
theorem laws_markText_SB0 (D : Den ctx) (n : Nat) (m : Nat) (K : Ex → St → Option (Out ctx 107)) (x0 : Int) (x1 : ByteArray) :
  LQ funcTab D n 107 [.r, .r, .r, .l, .l] (m + 1) (laws_markText_Q0 x0 x1) K = laws_markText_b0 D n (fun x0 x1 => LQ funcTab D n 107 [.r, .r, .r, .l, .l] m (laws_markText_Q0 x0 x1) K) (fun v0_0 => K (Ex.exit 0) (laws_markText_Q0_0 v0_0)) x0 x1 := by kernel_rfl
theorem laws_markText_EL0 (D : Den ctx) (n : Nat) (K : Ex → St → Option (Out ctx 107)) : ∀ (m : Nat) (x0 : Int) (x1 : ByteArray), LQ funcTab D n 107 [.r, .r, .r, .l, .l] m (laws_markText_Q0 x0 x1) K = laws_markText_L0 D n (fun v0_0 => K (Ex.exit 0) (laws_markText_Q0_0 v0_0)) m x0 x1
  | 0, x0, x1 => LQ_zero ..
  | m + 1, x0, x1 => by
    have ih : (fun x0 x1 => LQ funcTab D n 107 [.r, .r, .r, .l, .l] m (laws_markText_Q0 x0 x1) K) = laws_markText_L0 D n (fun v0_0 => K (Ex.exit 0) (laws_markText_Q0_0 v0_0)) m := by funext x0 x1; exact laws_markText_EL0 D n K m x0 x1
    rw [laws_markText_SB0]
    rw [ih]; rfl
theorem laws_markText_X0_0 (D : Den ctx) (n : Nat) (v0_0 : ByteArray) :
  (CQ funcTab D n 107 [] [.r, .r, .r, .l, .l] (lastK funcTab 107)) (Ex.exit 0) (laws_markText_Q0_0 v0_0) = laws_markText_x0_0 D n v0_0 := by kernel_rfl
theorem laws_markText_ELP0 (D : Den ctx) (n : Nat) (x0 : Int) (x1 : ByteArray) :
  LQ funcTab D n 107 [.r, .r, .r, .l, .l] n (laws_markText_Q0 x0 x1) (CQ funcTab D n 107 [] [.r, .r, .r, .l, .l] (lastK funcTab 107)) = laws_markText_LP0 D n x0 x1 := by
  rw [laws_markText_EL0]
  simp only [laws_markText_X0_0]
  rfl
theorem E_laws_markText (D : Den ctx) (n : Nat) (a0 : Int) : rfC funcTab D n 107 (a0, ()) = F_laws_markText D n a0 := by
  have h : rfC funcTab D n 107 (a0, ()) = laws_markText_e D n (fun x0 x1 => LQ funcTab D n 107 [.r, .r, .r, .l, .l] n (laws_markText_Q0 x0 x1) (CQ funcTab D n 107 [] [.r, .r, .r, .l, .l] (lastK funcTab 107))) a0 := by kernel_rfl
  rw [h]
  simp only [laws_markText_ELP0]
  rfl
end Go.G

namespace Go.G
set_option maxRecDepth 100000
set_option maxHeartbeats 0
open Go Go.V
noncomputable def slices_ContainsFunc_impl_Value_impl_Valuex_e (D : Den ctx) (n : Nat) (a1 : Clo) (a0 : List (List (Int × Int × ByteArray × Unit))) : Option ((Bool × Unit) × Unit) := bindD (C_slices_IndexFunc_impl_Value_impl_Value D a0 a1) fun b ↦ some ((decide (Prod.fst (Prod.fst b) ≥ 0), ()), ())
noncomputable def F_slices_ContainsFunc_impl_Value_impl_Valuex (D : Den ctx) (n : Nat) (a0 : List (List (Int × Int × ByteArray × Unit))) (a1 : Clo) : Option ((Bool × Unit) × Unit) := slices_ContainsFunc_impl_Value_impl_Valuex_e D n a1 a0
theorem E_slices_ContainsFunc_impl_Value_impl_Valuex (D : Den ctx) (n : Nat) (a0 : List (List (Int × Int × ByteArray × Unit))) (a1 : Clo) : rfC funcTab D n 116 (a0, (a1, ())) = F_slices_ContainsFunc_impl_Value_impl_Valuex D n a0 a1 := by kernel_rfl
end Go.G

namespace Go.G
set_option maxRecDepth 100000
set_option maxHeartbeats 0
open Go Go.V
noncomputable def slices_IndexFunc_impl_Value_impl_Value_b0 (D : Den ctx) (n : Nat) (a1 : Clo) (go : List (List (Int × Int × ByteArray × Unit)) → Int → Int → Option ((Int × Unit) × Unit)) (K0 : Int → Option ((Int × Unit) × Unit)) (K1 : Option ((Int × Unit) × Unit)) (x0 : List (List (Int × Int × ByteArray × Unit))) (x1 : Int) (x2 : Int) : Option ((Int × Unit) × Unit) := br (decide (x2 < x1)) (br (decide (0 ≤ x2) && decide (x2 < (↑(List.length x0) : Int))) (bindD (applyClo ctx D a1 [CapV.val (Ty.sl (Ty.pair (Ty.int IntKind.i64) (Ty.pair (Ty.int IntKind.i64) (Ty.pair Ty.str Ty.unit)))) (List.getD x0 (Int.toNat x2) [])] Ty.bool) fun b ↦ br b (K0 x2) (go x0 x1 (IntKind.wrap IntKind.i64 (x2 + 1)))) none) K1
noncomputable def slices_IndexFunc_impl_Value_impl_Value_L0 (D : Den ctx) (n : Nat) (a1 : Clo) (K0 : Int → Option ((Int × Unit) × Unit)) (K1 : Option ((Int × Unit) × Unit)) : Nat → (List (List (Int × Int × ByteArray × Unit))) → (Int) → (Int) → Option ((Int × Unit) × Unit) | 0 => (fun x0 x1 x2 => none) | m + 1 => (fun x0 x1 x2 => slices_IndexFunc_impl_Value_impl_Value_b0 D n a1 (slices_IndexFunc_impl_Value_impl_Value_L0 D n a1 K0 K1 m) K0 K1 x0 x1 x2)
noncomputable def slices_IndexFunc_impl_Value_impl_Value_x0_0 (D : Den ctx) (n : Nat) (a1 : Clo) (v0_0 : Int) : Option ((Int × Unit) × Unit) := some ((v0_0, ()), ())
noncomputable def slices_IndexFunc_impl_Value_impl_Value_x0_1 (D : Den ctx) (n : Nat) (a1 : Clo) : Option ((Int × Unit) × Unit) := some ((-1, ()), ())
noncomputable def slices_IndexFunc_impl_Value_impl_Value_LP0 (D : Den ctx) (n : Nat) (a1 : Clo) : (List (List (Int × Int × ByteArray × Unit))) → (Int) → (Int) → Option ((Int × Unit) × Unit) := (fun x0 x1 x2 => slices_IndexFunc_impl_Value_impl_Value_L0 D n a1 (fun v0_0 => slices_IndexFunc_impl_Value_impl_Value_x0_0 D n a1 v0_0) (slices_IndexFunc_impl_Value_impl_Value_x0_1 D n a1) n x0 x1 x2)
noncomputable def slices_IndexFunc_impl_Value_impl_Value_e (D : Den ctx) (n : Nat) (a1 : Clo) (lp0 : List (List (Int × Int × ByteArray × Unit)) → Int → Int → Option ((Int × Unit) × Unit)) (a0 : List (List (Int × Int × ByteArray × Unit))) : Option ((Int × Unit) × Unit) := lp0 a0 (↑(List.length a0) : Int) 0
noncomputable def F_slices_IndexFunc_impl_Value_impl_Value (D : Den ctx) (n : Nat) (a0 : List (List (Int × Int × ByteArray × Unit))) (a1 : Clo) : Option ((Int × Unit) × Unit) := slices_IndexFunc_impl_Value_impl_Value_e D n a1 (slices_IndexFunc_impl_Value_impl_Value_LP0 D n a1) a0
def slices_IndexFunc_impl_Value_impl_Value_Q0 (a1 : Clo) (x0 : List (List (Int × Int × ByteArray × Unit))) (x1 : Int) (x2 : Int) : St := stq 19 [(0, AV.val (Ty.sl (Ty.sl (Ty.pair (Ty.int IntKind.i64) (Ty.pair (Ty.int IntKind.i64) (Ty.pair Ty.str Ty.unit))))) x0), (1, AV.cloV a1), (7, AV.val (Ty.int IntKind.i64) x1), (8, AV.val (Ty.int IntKind.i64) x2)] []
def slices_IndexFunc_impl_Value_impl_Value_Q0_0 (a1 : Clo) (v0_0 : Int) : St := stq 19 [(4, AV.val (Ty.int IntKind.i64) v0_0)] []
def slices_IndexFunc_impl_Value_impl_Value_Q0_1 (a1 : Clo) : St := stq 19 [] []
theorem slices_IndexFunc_impl_Value_impl_Value_SB0 (D : Den ctx) (n : Nat) (a1 : Clo) (m : Nat) (K : Ex → St → Option (Out ctx 130)) (x0 : List (List (Int × Int × ByteArray × Unit))) (x1 : Int) (x2 : Int) :
  LQ funcTab D n 130 [.r, .l, .r, .l] (m + 1) (slices_IndexFunc_impl_Value_impl_Value_Q0 a1 x0 x1 x2) K = slices_IndexFunc_impl_Value_impl_Value_b0 D n a1 (fun x0 x1 x2 => LQ funcTab D n 130 [.r, .l, .r, .l] m (slices_IndexFunc_impl_Value_impl_Value_Q0 a1 x0 x1 x2) K) (fun v0_0 => K (Ex.ret) (slices_IndexFunc_impl_Value_impl_Value_Q0_0 a1 v0_0)) (K (Ex.exit 0) (slices_IndexFunc_impl_Value_impl_Value_Q0_1 a1)) x0 x1 x2 := by kernel_rfl
theorem slices_IndexFunc_impl_Value_impl_Value_EL0 (D : Den ctx) (n : Nat) (a1 : Clo) (K : Ex → St → Option (Out ctx 130)) : ∀ (m : Nat) (x0 : List (List (Int × Int × ByteArray × Unit))) (x1 : Int) (x2 : Int), LQ funcTab D n 130 [.r, .l, .r, .l] m (slices_IndexFunc_impl_Value_impl_Value_Q0 a1 x0 x1 x2) K = slices_IndexFunc_impl_Value_impl_Value_L0 D n a1 (fun v0_0 => K (Ex.ret) (slices_IndexFunc_impl_Value_impl_Value_Q0_0 a1 v0_0)) (K (Ex.exit 0) (slices_IndexFunc_impl_Value_impl_Value_Q0_1 a1)) m x0 x1 x2
  | 0, x0, x1, x2 => LQ_zero ..
  | m + 1, x0, x1, x2 => by
    have ih : (fun x0 x1 x2 => LQ funcTab D n 130 [.r, .l, .r, .l] m (slices_IndexFunc_impl_Value_impl_Value_Q0 a1 x0 x1 x2) K) = slices_IndexFunc_impl_Value_impl_Value_L0 D n a1 (fun v0_0 => K (Ex.ret) (slices_IndexFunc_impl_Value_impl_Value_Q0_0 a1 v0_0)) (K (Ex.exit 0) (slices_IndexFunc_impl_Value_impl_Value_Q0_1 a1)) m := by funext x0 x1 x2; exact slices_IndexFunc_impl_Value_impl_Value_EL0 D n a1 K m x0 x1 x2
    rw [slices_IndexFunc_impl_Value_impl_Value_SB0]
    rw [ih]; rfl
theorem slices_IndexFunc_impl_Value_impl_Value_X0_0 (D : Den ctx) (n : Nat) (a1 : Clo) (v0_0 : Int) :
  (CQ funcTab D n 130 [] [.r, .l, .r, .l] (lastK funcTab 130)) (Ex.ret) (slices_IndexFunc_impl_Value_impl_Value_Q0_0 a1 v0_0) = slices_IndexFunc_impl_Value_impl_Value_x0_0 D n a1 v0_0 := by kernel_rfl
theorem slices_IndexFunc_impl_Value_impl_Value_X0_1 (D : Den ctx) (n : Nat) (a1 : Clo) :
  (CQ funcTab D n 130 [] [.r, .l, .r, .l] (lastK funcTab 130)) (Ex.exit 0) (slices_IndexFunc_impl_Value_impl_Value_Q0_1 a1) = slices_IndexFunc_impl_Value_impl_Value_x0_1 D n a1 := by kernel_rfl
theorem slices_IndexFunc_impl_Value_impl_Value_ELP0 (D : Den ctx) (n : Nat) (a1 : Clo) (x0 : List (List (Int × Int × ByteArray × Unit))) (x1 : Int) (x2 : Int) :
  LQ funcTab D n 130 [.r, .l, .r, .l] n (slices_IndexFunc_impl_Value_impl_Value_Q0 a1 x0 x1 x2) (CQ funcTab D n 130 [] [.r, .l, .r, .l] (lastK funcTab 130)) = slices_IndexFunc_impl_Value_impl_Value_LP0 D n a1 x0 x1 x2 := by
  rw [slices_IndexFunc_impl_Value_impl_Value_EL0]
  simp only [slices_IndexFunc_impl_Value_impl_Value_X0_0, slices_IndexFunc_impl_Value_impl_Value_X0_1]
  rfl
theorem E_slices_IndexFunc_impl_Value_impl_Value (D : Den ctx) (n : Nat) (a0 : List (List (Int × Int × ByteArray × Unit))) (a1 : Clo) : rfC funcTab D n 130 (a0, (a1, ())) = F_slices_IndexFunc_impl_Value_impl_Value D n a0 a1 := by
  have h : rfC funcTab D n 130 (a0, (a1, ())) = slices_IndexFunc_impl_Value_impl_Value_e D n a1 (fun x0 x1 x2 => LQ funcTab D n 130 [.r, .l, .r, .l] n (slices_IndexFunc_impl_Value_impl_Value_Q0 a1 x0 x1 x2) (CQ funcTab D n 130 [] [.r, .l, .r, .l] (lastK funcTab 130))) a0 := by kernel_rfl
  rw [h]
  simp only [slices_IndexFunc_impl_Value_impl_Value_ELP0]
  rfl
end Go.G

namespace Go.G
set_option maxRecDepth 100000
set_option maxHeartbeats 0
open Go Go.V
noncomputable def laws_heldSchema_e (D : Den ctx) (n : Nat) (a0 : List (ByteArray × Int × Bool × Unit) × List Int × List (ByteArray × List Int × Bool × Unit) × Unit) (a1 : Int) : Option ((Int × Unit) × Unit) := bindD (C_laws_heldColS D (Prod.fst a0) a1) fun b ↦ br (decide (Prod.fst (Prod.fst b) < 0)) (some ((-1, ()), ())) (bindD (C_laws_heldIntS D (Prod.fst (Prod.snd a0)) (Prod.fst (Prod.fst b))) fun b ↦ br (decide (Prod.fst (Prod.fst b) < 0)) (some ((-1, ()), ())) (bindD (C_laws_heldIndexS D (Prod.fst (Prod.snd (Prod.snd a0))) (Prod.fst (Prod.fst b))) fun b ↦ br (decide (Prod.fst (Prod.fst b) < 0)) (some ((-1, ()), ())) (some ((Prod.fst (Prod.fst b), ()), ()))))
noncomputable def F_laws_heldSchema (D : Den ctx) (n : Nat) (a0 : List (ByteArray × Int × Bool × Unit) × List Int × List (ByteArray × List Int × Bool × Unit) × Unit) (a1 : Int) : Option ((Int × Unit) × Unit) := laws_heldSchema_e D n a0 a1
theorem E_laws_heldSchema (D : Den ctx) (n : Nat) (a0 : List (ByteArray × Int × Bool × Unit) × List Int × List (ByteArray × List Int × Bool × Unit) × Unit) (a1 : Int) : rfC funcTab D n 136 (a0, (a1, ())) = F_laws_heldSchema D n a0 a1 := by kernel_rfl
end Go.G

namespace Go.G
set_option maxRecDepth 100000
set_option maxHeartbeats 0
open Go Go.V
noncomputable def laws_szCol_e (D : Den ctx) (n : Nat) (a0 : ByteArray × Int × Bool × Unit) (a1 : Int) : Option ((Int × Unit) × Unit) := br (decide (IntKind.wrap IntKind.i64 (a1 - (↑(ByteArray.size (Prod.fst a0)) : Int)) < 0)) (some ((-1, ()), ())) (some ((IntKind.wrap IntKind.i64 (a1 - (↑(ByteArray.size (Prod.fst a0)) : Int)), ()), ()))
noncomputable def F_laws_szCol (D : Den ctx) (n : Nat) (a0 : ByteArray × Int × Bool × Unit) (a1 : Int) : Option ((Int × Unit) × Unit) := laws_szCol_e D n a0 a1
theorem E_laws_szCol (D : Den ctx) (n : Nat) (a0 : ByteArray × Int × Bool × Unit) (a1 : Int) : rfC funcTab D n 143 (a0, (a1, ())) = F_laws_szCol D n a0 a1 := by kernel_rfl
end Go.G

namespace Go.G
set_option maxRecDepth 100000
set_option maxHeartbeats 0
open Go Go.V
noncomputable def laws_szIndex_e (D : Den ctx) (n : Nat) (a0 : ByteArray × List Int × Bool × Unit) (a1 : Int) : Option ((Int × Unit) × Unit) := br (decide (IntKind.wrap IntKind.i64 (a1 - (↑(ByteArray.size (Prod.fst a0)) : Int)) < 0)) (some ((-1, ()), ())) (bindD (C_laws_szIntS D (Prod.fst (Prod.snd a0)) (IntKind.wrap IntKind.i64 (a1 - (↑(ByteArray.size (Prod.fst a0)) : Int)))) fun b ↦ br (decide (Prod.fst (Prod.fst b) < 0)) (some ((-1, ()), ())) (some ((Prod.fst (Prod.fst b), ()), ())))
noncomputable def F_laws_szIndex (D : Den ctx) (n : Nat) (a0 : ByteArray × List Int × Bool × Unit) (a1 : Int) : Option ((Int × Unit) × Unit) := laws_szIndex_e D n a0 a1
theorem E_laws_szIndex (D : Den ctx) (n : Nat) (a0 : ByteArray × List Int × Bool × Unit) (a1 : Int) : rfC funcTab D n 144 (a0, (a1, ())) = F_laws_szIndex D n a0 a1 := by kernel_rfl
end Go.G

namespace Go.G
set_option maxRecDepth 100000
set_option maxHeartbeats 0
open Go Go.V
noncomputable def laws_toCol_e (D : Den ctx) (n : Nat) (a0 : ByteArray × Int × Bool × Unit) : Option (((ByteArray × Int × Bool × Unit) × Unit) × Unit) := some (((Prod.fst a0, Prod.fst (Prod.snd a0), Prod.fst (Prod.snd (Prod.snd a0)), ()), ()), ())
noncomputable def F_laws_toCol (D : Den ctx) (n : Nat) (a0 : ByteArray × Int × Bool × Unit) : Option (((ByteArray × Int × Bool × Unit) × Unit) × Unit) := laws_toCol_e D n a0
theorem E_laws_toCol (D : Den ctx) (n : Nat) (a0 : ByteArray × Int × Bool × Unit) : rfC funcTab D n 145 (a0, ()) = F_laws_toCol D n a0 := by kernel_rfl
end Go.G

namespace Go.G
set_option maxRecDepth 100000
set_option maxHeartbeats 0
open Go Go.V
noncomputable def laws_toIndex_e (D : Den ctx) (n : Nat) (a0 : ByteArray × List Int × Bool × Unit) : Option (((ByteArray × List Int × Bool × Unit) × Unit) × Unit) := bindD (C_laws_toIntS D (Prod.fst (Prod.snd a0))) fun b ↦ some (((Prod.fst a0, Prod.fst (Prod.fst b), Prod.fst (Prod.snd (Prod.snd a0)), ()), ()), ())
noncomputable def F_laws_toIndex (D : Den ctx) (n : Nat) (a0 : ByteArray × List Int × Bool × Unit) : Option (((ByteArray × List Int × Bool × Unit) × Unit) × Unit) := laws_toIndex_e D n a0
theorem E_laws_toIndex (D : Den ctx) (n : Nat) (a0 : ByteArray × List Int × Bool × Unit) : rfC funcTab D n 146 (a0, ()) = F_laws_toIndex D n a0 := by kernel_rfl
end Go.G

namespace Go.G
set_option maxRecDepth 100000
set_option maxHeartbeats 0
open Go Go.V
noncomputable def slices_Contains_int_int_e (D : Den ctx) (n : Nat) (a0 : List Int) (a1 : Int) : Option ((Bool × Unit) × Unit) := bindD (C_slices_Index_int_int D a0 a1) fun b ↦ some ((decide (Prod.fst (Prod.fst b) ≥ 0), ()), ())
noncomputable def F_slices_Contains_int_int (D : Den ctx) (n : Nat) (a0 : List Int) (a1 : Int) : Option ((Bool × Unit) × Unit) := slices_Contains_int_int_e D n a0 a1
theorem E_slices_Contains_int_int (D : Den ctx) (n : Nat) (a0 : List Int) (a1 : Int) : rfC funcTab D n 147 (a0, (a1, ())) = F_slices_Contains_int_int D n a0 a1 := by kernel_rfl
end Go.G

namespace Go.G
set_option maxRecDepth 100000
set_option maxHeartbeats 0
open Go Go.V
noncomputable def slices_IndexFunc_impl_Index_impl_Index_b0 (D : Den ctx) (n : Nat) (a1 : Clo) (go : List (ByteArray × List Int × Bool × Unit) → Int → Int → Option ((Int × Unit) × Unit)) (K0 : Int → Option ((Int × Unit) × Unit)) (K1 : Option ((Int × Unit) × Unit)) (x0 : List (ByteArray × List Int × Bool × Unit)) (x1 : Int) (x2 : Int) : Option ((Int × Unit) × Unit) := br (decide (x2 < x1)) (br (decide (0 ≤ x2) && decide (x2 < (↑(List.length x0) : Int))) (bindD (applyClo ctx D a1 [CapV.val (Ty.pair Ty.str (Ty.pair (Ty.sl (Ty.int IntKind.i64)) (Ty.pair Ty.bool Ty.unit))) (List.getD x0 (Int.toNat x2) (ByteArray.empty, [], false, ()))] Ty.bool) fun b ↦ br b (K0 x2) (go x0 x1 (IntKind.wrap IntKind.i64 (x2 + 1)))) none) K1
noncomputable def slices_IndexFunc_impl_Index_impl_Index_L0 (D : Den ctx) (n : Nat) (a1 : Clo) (K0 : Int → Option ((Int × Unit) × Unit)) (K1 : Option ((Int × Unit) × Unit)) : Nat → (List (ByteArray × List Int × Bool × Unit)) → (Int) → (Int) → Option ((Int × Unit) × Unit) | 0 => (fun x0 x1 x2 => none) | m + 1 => (fun x0 x1 x2 => slices_IndexFunc_impl_Index_impl_Index_b0 D n a1 (slices_IndexFunc_impl_Index_impl_Index_L0 D n a1 K0 K1 m) K0 K1 x0 x1 x2)
noncomputable def slices_IndexFunc_impl_Index_impl_Index_x0_0 (D : Den ctx) (n : Nat) (a1 : Clo) (v0_0 : Int) : Option ((Int × Unit) × Unit) := some ((v0_0, ()), ())
noncomputable def slices_IndexFunc_impl_Index_impl_Index_x0_1 (D : Den ctx) (n : Nat) (a1 : Clo) : Option ((Int × Unit) × Unit) := some ((-1, ()), ())
noncomputable def slices_IndexFunc_impl_Index_impl_Index_LP0 (D : Den ctx) (n : Nat) (a1 : Clo) : (List (ByteArray × List Int × Bool × Unit)) → (Int) → (Int) → Option ((Int × Unit) × Unit) := (fun x0 x1 x2 => slices_IndexFunc_impl_Index_impl_Index_L0 D n a1 (fun v0_0 => slices_IndexFunc_impl_Index_impl_Index_x0_0 D n a1 v0_0) (slices_IndexFunc_impl_Index_impl_Index_x0_1 D n a1) n x0 x1 x2)
noncomputable def slices_IndexFunc_impl_Index_impl_Index_e (D : Den ctx) (n : Nat) (a1 : Clo) (lp0 : List (ByteArray × List Int × Bool × Unit) → Int → Int → Option ((Int × Unit) × Unit)) (a0 : List (ByteArray × List Int × Bool × Unit)) : Option ((Int × Unit) × Unit) := lp0 a0 (↑(List.length a0) : Int) 0
noncomputable def F_slices_IndexFunc_impl_Index_impl_Index (D : Den ctx) (n : Nat) (a0 : List (ByteArray × List Int × Bool × Unit)) (a1 : Clo) : Option ((Int × Unit) × Unit) := slices_IndexFunc_impl_Index_impl_Index_e D n a1 (slices_IndexFunc_impl_Index_impl_Index_LP0 D n a1) a0
def slices_IndexFunc_impl_Index_impl_Index_Q0 (a1 : Clo) (x0 : List (ByteArray × List Int × Bool × Unit)) (x1 : Int) (x2 : Int) : St := stq 19 [(0, AV.val (Ty.sl (Ty.pair Ty.str (Ty.pair (Ty.sl (Ty.int IntKind.i64)) (Ty.pair Ty.bool Ty.unit)))) x0), (1, AV.cloV a1), (7, AV.val (Ty.int IntKind.i64) x1), (8, AV.val (Ty.int IntKind.i64) x2)] []
def slices_IndexFunc_impl_Index_impl_Index_Q0_0 (a1 : Clo) (v0_0 : Int) : St := stq 19 [(4, AV.val (Ty.int IntKind.i64) v0_0)] []
def slices_IndexFunc_impl_Index_impl_Index_Q0_1 (a1 : Clo) : St := stq 19 [] []
theorem slices_IndexFunc_impl_Index_impl_Index_SB0 (D : Den ctx) (n : Nat) (a1 : Clo) (m : Nat) (K : Ex → St → Option (Out ctx 148)) (x0 : List (ByteArray × List Int × Bool × Unit)) (x1 : Int) (x2 : Int) :
  LQ funcTab D n 148 [.r, .l, .r, .l] (m + 1) (slices_IndexFunc_impl_Index_impl_Index_Q0 a1 x0 x1 x2) K = slices_IndexFunc_impl_Index_impl_Index_b0 D n a1 (fun x0 x1 x2 => LQ funcTab D n 148 [.r, .l, .r, .l] m (slices_IndexFunc_impl_Index_impl_Index_Q0 a1 x0 x1 x2) K) (fun v0_0 => K (Ex.ret) (slices_IndexFunc_impl_Index_impl_Index_Q0_0 a1 v0_0)) (K (Ex.exit 0) (slices_IndexFunc_impl_Index_impl_Index_Q0_1 a1)) x0 x1 x2 := by kernel_rfl
theorem slices_IndexFunc_impl_Index_impl_Index_EL0 (D : Den ctx) (n : Nat) (a1 : Clo) (K : Ex → St → Option (Out ctx 148)) : ∀ (m : Nat) (x0 : List (ByteArray × List Int × Bool × Unit)) (x1 : Int) (x2 : Int), LQ funcTab D n 148 [.r, .l, .r, .l] m (slices_IndexFunc_impl_Index_impl_Index_Q0 a1 x0 x1 x2) K = slices_IndexFunc_impl_Index_impl_Index_L0 D n a1 (fun v0_0 => K (Ex.ret) (slices_IndexFunc_impl_Index_impl_Index_Q0_0 a1 v0_0)) (K (Ex.exit 0) (slices_IndexFunc_impl_Index_impl_Index_Q0_1 a1)) m x0 x1 x2
  | 0, x0, x1, x2 => LQ_zero ..
  | m + 1, x0, x1, x2 => by
    have ih : (fun x0 x1 x2 => LQ funcTab D n 148 [.r, .l, .r, .l] m (slices_IndexFunc_impl_Index_impl_Index_Q0 a1 x0 x1 x2) K) = slices_IndexFunc_impl_Index_impl_Index_L0 D n a1 (fun v0_0 => K (Ex.ret) (slices_IndexFunc_impl_Index_impl_Index_Q0_0 a1 v0_0)) (K (Ex.exit 0) (slices_IndexFunc_impl_Index_impl_Index_Q0_1 a1)) m := by funext x0 x1 x2; exact slices_IndexFunc_impl_Index_impl_Index_EL0 D n a1 K m x0 x1 x2
    rw [slices_IndexFunc_impl_Index_impl_Index_SB0]
    rw [ih]; rfl
theorem slices_IndexFunc_impl_Index_impl_Index_X0_0 (D : Den ctx) (n : Nat) (a1 : Clo) (v0_0 : Int) :
  (CQ funcTab D n 148 [] [.r, .l, .r, .l] (lastK funcTab 148)) (Ex.ret) (slices_IndexFunc_impl_Index_impl_Index_Q0_0 a1 v0_0) = slices_IndexFunc_impl_Index_impl_Index_x0_0 D n a1 v0_0 := by kernel_rfl
theorem slices_IndexFunc_impl_Index_impl_Index_X0_1 (D : Den ctx) (n : Nat) (a1 : Clo) :
  (CQ funcTab D n 148 [] [.r, .l, .r, .l] (lastK funcTab 148)) (Ex.exit 0) (slices_IndexFunc_impl_Index_impl_Index_Q0_1 a1) = slices_IndexFunc_impl_Index_impl_Index_x0_1 D n a1 := by kernel_rfl
theorem slices_IndexFunc_impl_Index_impl_Index_ELP0 (D : Den ctx) (n : Nat) (a1 : Clo) (x0 : List (ByteArray × List Int × Bool × Unit)) (x1 : Int) (x2 : Int) :
  LQ funcTab D n 148 [.r, .l, .r, .l] n (slices_IndexFunc_impl_Index_impl_Index_Q0 a1 x0 x1 x2) (CQ funcTab D n 148 [] [.r, .l, .r, .l] (lastK funcTab 148)) = slices_IndexFunc_impl_Index_impl_Index_LP0 D n a1 x0 x1 x2 := by
  rw [slices_IndexFunc_impl_Index_impl_Index_EL0]
  simp only [slices_IndexFunc_impl_Index_impl_Index_X0_0, slices_IndexFunc_impl_Index_impl_Index_X0_1]
  rfl
theorem E_slices_IndexFunc_impl_Index_impl_Index (D : Den ctx) (n : Nat) (a0 : List (ByteArray × List Int × Bool × Unit)) (a1 : Clo) : rfC funcTab D n 148 (a0, (a1, ())) = F_slices_IndexFunc_impl_Index_impl_Index D n a0 a1 := by
  have h : rfC funcTab D n 148 (a0, (a1, ())) = slices_IndexFunc_impl_Index_impl_Index_e D n a1 (fun x0 x1 x2 => LQ funcTab D n 148 [.r, .l, .r, .l] n (slices_IndexFunc_impl_Index_impl_Index_Q0 a1 x0 x1 x2) (CQ funcTab D n 148 [] [.r, .l, .r, .l] (lastK funcTab 148))) a0 := by kernel_rfl
  rw [h]
  simp only [slices_IndexFunc_impl_Index_impl_Index_ELP0]
  rfl
end Go.G

namespace Go.G
set_option maxRecDepth 100000
set_option maxHeartbeats 0
open Go Go.V
noncomputable def slices_IndexFunc_int_int_b0 (D : Den ctx) (n : Nat) (a1 : Clo) (go : List Int → Int → Int → Option ((Int × Unit) × Unit)) (K0 : Int → Option ((Int × Unit) × Unit)) (K1 : Option ((Int × Unit) × Unit)) (x0 : List Int) (x1 : Int) (x2 : Int) : Option ((Int × Unit) × Unit) := br (decide (x2 < x1)) (br (decide (0 ≤ x2) && decide (x2 < (↑(List.length x0) : Int))) (bindD (applyClo ctx D a1 [CapV.val (Ty.int IntKind.i64) (List.getD x0 (Int.toNat x2) 0)] Ty.bool) fun b ↦ br b (K0 x2) (go x0 x1 (IntKind.wrap IntKind.i64 (x2 + 1)))) none) K1
noncomputable def slices_IndexFunc_int_int_L0 (D : Den ctx) (n : Nat) (a1 : Clo) (K0 : Int → Option ((Int × Unit) × Unit)) (K1 : Option ((Int × Unit) × Unit)) : Nat → (List Int) → (Int) → (Int) → Option ((Int × Unit) × Unit) | 0 => (fun x0 x1 x2 => none) | m + 1 => (fun x0 x1 x2 => slices_IndexFunc_int_int_b0 D n a1 (slices_IndexFunc_int_int_L0 D n a1 K0 K1 m) K0 K1 x0 x1 x2)
noncomputable def slices_IndexFunc_int_int_x0_0 (D : Den ctx) (n : Nat) (a1 : Clo) (v0_0 : Int) : Option ((Int × Unit) × Unit) := some ((v0_0, ()), ())
noncomputable def slices_IndexFunc_int_int_x0_1 (D : Den ctx) (n : Nat) (a1 : Clo) : Option ((Int × Unit) × Unit) := some ((-1, ()), ())
noncomputable def slices_IndexFunc_int_int_LP0 (D : Den ctx) (n : Nat) (a1 : Clo) : (List Int) → (Int) → (Int) → Option ((Int × Unit) × Unit) := (fun x0 x1 x2 => slices_IndexFunc_int_int_L0 D n a1 (fun v0_0 => slices_IndexFunc_int_int_x0_0 D n a1 v0_0) (slices_IndexFunc_int_int_x0_1 D n a1) n x0 x1 x2)
noncomputable def slices_IndexFunc_int_int_e (D : Den ctx) (n : Nat) (a1 : Clo) (lp0 : List Int → Int → Int → Option ((Int × Unit) × Unit)) (a0 : List Int) : Option ((Int × Unit) × Unit) := lp0 a0 (↑(List.length a0) : Int) 0
noncomputable def F_slices_IndexFunc_int_int (D : Den ctx) (n : Nat) (a0 : List Int) (a1 : Clo) : Option ((Int × Unit) × Unit) := slices_IndexFunc_int_int_e D n a1 (slices_IndexFunc_int_int_LP0 D n a1) a0
def slices_IndexFunc_int_int_Q0 (a1 : Clo) (x0 : List Int) (x1 : Int) (x2 : Int) : St := stq 19 [(0, AV.val (Ty.sl (Ty.int IntKind.i64)) x0), (1, AV.cloV a1), (7, AV.val (Ty.int IntKind.i64) x1), (8, AV.val (Ty.int IntKind.i64) x2)] []
def slices_IndexFunc_int_int_Q0_0 (a1 : Clo) (v0_0 : Int) : St := stq 19 [(4, AV.val (Ty.int IntKind.i64) v0_0)] []
def slices_IndexFunc_int_int_Q0_1 (a1 : Clo) : St := stq 19 [] []
theorem slices_IndexFunc_int_int_SB0 (D : Den ctx) (n : Nat) (a1 : Clo) (m : Nat) (K : Ex → St → Option (Out ctx 149)) (x0 : List Int) (x1 : Int) (x2 : Int) :
  LQ funcTab D n 149 [.r, .l, .r, .l] (m + 1) (slices_IndexFunc_int_int_Q0 a1 x0 x1 x2) K = slices_IndexFunc_int_int_b0 D n a1 (fun x0 x1 x2 => LQ funcTab D n 149 [.r, .l, .r, .l] m (slices_IndexFunc_int_int_Q0 a1 x0 x1 x2) K) (fun v0_0 => K (Ex.ret) (slices_IndexFunc_int_int_Q0_0 a1 v0_0)) (K (Ex.exit 0) (slices_IndexFunc_int_int_Q0_1 a1)) x0 x1 x2 := by kernel_rfl
theorem slices_IndexFunc_int_int_EL0 (D : Den ctx) (n : Nat) (a1 : Clo) (K : Ex → St → Option (Out ctx 149)) : ∀ (m : Nat) (x0 : List Int) (x1 : Int) (x2 : Int), LQ funcTab D n 149 [.r, .l, .r, .l] m (slices_IndexFunc_int_int_Q0 a1 x0 x1 x2) K = slices_IndexFunc_int_int_L0 D n a1 (fun v0_0 => K (Ex.ret) (slices_IndexFunc_int_int_Q0_0 a1 v0_0)) (K (Ex.exit 0) (slices_IndexFunc_int_int_Q0_1 a1)) m x0 x1 x2
  | 0, x0, x1, x2 => LQ_zero ..
  | m + 1, x0, x1, x2 => by
    have ih : (fun x0 x1 x2 => LQ funcTab D n 149 [.r, .l, .r, .l] m (slices_IndexFunc_int_int_Q0 a1 x0 x1 x2) K) = slices_IndexFunc_int_int_L0 D n a1 (fun v0_0 => K (Ex.ret) (slices_IndexFunc_int_int_Q0_0 a1 v0_0)) (K (Ex.exit 0) (slices_IndexFunc_int_int_Q0_1 a1)) m := by funext x0 x1 x2; exact slices_IndexFunc_int_int_EL0 D n a1 K m x0 x1 x2
    rw [slices_IndexFunc_int_int_SB0]
    rw [ih]; rfl
theorem slices_IndexFunc_int_int_X0_0 (D : Den ctx) (n : Nat) (a1 : Clo) (v0_0 : Int) :
  (CQ funcTab D n 149 [] [.r, .l, .r, .l] (lastK funcTab 149)) (Ex.ret) (slices_IndexFunc_int_int_Q0_0 a1 v0_0) = slices_IndexFunc_int_int_x0_0 D n a1 v0_0 := by kernel_rfl
theorem slices_IndexFunc_int_int_X0_1 (D : Den ctx) (n : Nat) (a1 : Clo) :
  (CQ funcTab D n 149 [] [.r, .l, .r, .l] (lastK funcTab 149)) (Ex.exit 0) (slices_IndexFunc_int_int_Q0_1 a1) = slices_IndexFunc_int_int_x0_1 D n a1 := by kernel_rfl
theorem slices_IndexFunc_int_int_ELP0 (D : Den ctx) (n : Nat) (a1 : Clo) (x0 : List Int) (x1 : Int) (x2 : Int) :
  LQ funcTab D n 149 [.r, .l, .r, .l] n (slices_IndexFunc_int_int_Q0 a1 x0 x1 x2) (CQ funcTab D n 149 [] [.r, .l, .r, .l] (lastK funcTab 149)) = slices_IndexFunc_int_int_LP0 D n a1 x0 x1 x2 := by
  rw [slices_IndexFunc_int_int_EL0]
  simp only [slices_IndexFunc_int_int_X0_0, slices_IndexFunc_int_int_X0_1]
  rfl
theorem E_slices_IndexFunc_int_int (D : Den ctx) (n : Nat) (a0 : List Int) (a1 : Clo) : rfC funcTab D n 149 (a0, (a1, ())) = F_slices_IndexFunc_int_int D n a0 a1 := by
  have h : rfC funcTab D n 149 (a0, (a1, ())) = slices_IndexFunc_int_int_e D n a1 (fun x0 x1 x2 => LQ funcTab D n 149 [.r, .l, .r, .l] n (slices_IndexFunc_int_int_Q0 a1 x0 x1 x2) (CQ funcTab D n 149 [] [.r, .l, .r, .l] (lastK funcTab 149))) a0 := by kernel_rfl
  rw [h]
  simp only [slices_IndexFunc_int_int_ELP0]
  rfl
end Go.G

namespace Go.G
set_option maxRecDepth 100000
set_option maxHeartbeats 0
open Go Go.V
noncomputable def laws_eqCol_e (D : Den ctx) (n : Nat) (a0 : ByteArray × Int × Bool × Unit) (a1 : ByteArray × Int × Bool × Unit) : Option ((Bool × Unit) × Unit) := br (!List.beq (ByteArray.toList (Prod.fst a0)) (ByteArray.toList (Prod.fst a1))) (some ((false, ()), ())) (br (Prod.fst (Prod.snd a0) != Prod.fst (Prod.snd a1)) (some ((false, ()), ())) (br (!decide (Prod.fst (Prod.snd (Prod.snd a0)) = Prod.fst (Prod.snd (Prod.snd a1)))) (some ((false, ()), ())) (some ((true, ()), ()))))
noncomputable def F_laws_eqCol (D : Den ctx) (n : Nat) (a0 : ByteArray × Int × Bool × Unit) (a1 : ByteArray × Int × Bool × Unit) : Option ((Bool × Unit) × Unit) := laws_eqCol_e D n a0 a1
theorem E_laws_eqCol (D : Den ctx) (n : Nat) (a0 : ByteArray × Int × Bool × Unit) (a1 : ByteArray × Int × Bool × Unit) : rfC funcTab D n 150 (a0, (a1, ())) = F_laws_eqCol D n a0 a1 := by kernel_rfl
end Go.G

namespace Go.G
set_option maxRecDepth 100000
set_option maxHeartbeats 0
open Go Go.V
noncomputable def laws_eqIndex_e (D : Den ctx) (n : Nat) (a0 : ByteArray × List Int × Bool × Unit) (a1 : ByteArray × List Int × Bool × Unit) : Option ((Bool × Unit) × Unit) := br (!List.beq (ByteArray.toList (Prod.fst a0)) (ByteArray.toList (Prod.fst a1))) (some ((false, ()), ())) (bindD (C_laws_eqIntS D (Prod.fst (Prod.snd a0)) (Prod.fst (Prod.snd a1))) fun b ↦ br (!Prod.fst (Prod.fst b)) (some ((false, ()), ())) (br (!decide (Prod.fst (Prod.snd (Prod.snd a0)) = Prod.fst (Prod.snd (Prod.snd a1)))) (some ((false, ()), ())) (some ((true, ()), ()))))
noncomputable def F_laws_eqIndex (D : Den ctx) (n : Nat) (a0 : ByteArray × List Int × Bool × Unit) (a1 : ByteArray × List Int × Bool × Unit) : Option ((Bool × Unit) × Unit) := laws_eqIndex_e D n a0 a1
theorem E_laws_eqIndex (D : Den ctx) (n : Nat) (a0 : ByteArray × List Int × Bool × Unit) (a1 : ByteArray × List Int × Bool × Unit) : rfC funcTab D n 151 (a0, (a1, ())) = F_laws_eqIndex D n a0 a1 := by kernel_rfl
end Go.G

namespace Go.G
set_option maxRecDepth 100000
set_option maxHeartbeats 0
open Go Go.V
noncomputable def slices_IndexFunc_impl_Value_impl_Valuex_b0 (D : Den ctx) (n : Nat) (a1 : Clo) (go : List (Int × Int × ByteArray × Unit) → Int → Int → Option ((Int × Unit) × Unit)) (K0 : Int → Option ((Int × Unit) × Unit)) (K1 : Option ((Int × Unit) × Unit)) (x0 : List (Int × Int × ByteArray × Unit)) (x1 : Int) (x2 : Int) : Option ((Int × Unit) × Unit) := br (decide (x2 < x1)) (br (decide (0 ≤ x2) && decide (x2 < (↑(List.length x0) : Int))) (bindD (applyClo ctx D a1 [CapV.val (Ty.pair (Ty.int IntKind.i64) (Ty.pair (Ty.int IntKind.i64) (Ty.pair Ty.str Ty.unit))) (List.getD x0 (Int.toNat x2) (0, 0, ByteArray.empty, ()))] Ty.bool) fun b ↦ br b (K0 x2) (go x0 x1 (IntKind.wrap IntKind.i64 (x2 + 1)))) none) K1
noncomputable def slices_IndexFunc_impl_Value_impl_Valuex_L0 (D : Den ctx) (n : Nat) (a1 : Clo) (K0 : Int → Option ((Int × Unit) × Unit)) (K1 : Option ((Int × Unit) × Unit)) : Nat → (List (Int × Int × ByteArray × Unit)) → (Int) → (Int) → Option ((Int × Unit) × Unit) | 0 => (fun x0 x1 x2 => none) | m + 1 => (fun x0 x1 x2 => slices_IndexFunc_impl_Value_impl_Valuex_b0 D n a1 (slices_IndexFunc_impl_Value_impl_Valuex_L0 D n a1 K0 K1 m) K0 K1 x0 x1 x2)
noncomputable def slices_IndexFunc_impl_Value_impl_Valuex_x0_0 (D : Den ctx) (n : Nat) (a1 : Clo) (v0_0 : Int) : Option ((Int × Unit) × Unit) := some ((v0_0, ()), ())
noncomputable def slices_IndexFunc_impl_Value_impl_Valuex_x0_1 (D : Den ctx) (n : Nat) (a1 : Clo) : Option ((Int × Unit) × Unit) := some ((-1, ()), ())
noncomputable def slices_IndexFunc_impl_Value_impl_Valuex_LP0 (D : Den ctx) (n : Nat) (a1 : Clo) : (List (Int × Int × ByteArray × Unit)) → (Int) → (Int) → Option ((Int × Unit) × Unit) := (fun x0 x1 x2 => slices_IndexFunc_impl_Value_impl_Valuex_L0 D n a1 (fun v0_0 => slices_IndexFunc_impl_Value_impl_Valuex_x0_0 D n a1 v0_0) (slices_IndexFunc_impl_Value_impl_Valuex_x0_1 D n a1) n x0 x1 x2)
noncomputable def slices_IndexFunc_impl_Value_impl_Valuex_e (D : Den ctx) (n : Nat) (a1 : Clo) (lp0 : List (Int × Int × ByteArray × Unit) → Int → Int → Option ((Int × Unit) × Unit)) (a0 : List (Int × Int × ByteArray × Unit)) : Option ((Int × Unit) × Unit) := lp0 a0 (↑(List.length a0) : Int) 0
noncomputable def F_slices_IndexFunc_impl_Value_impl_Valuex (D : Den ctx) (n : Nat) (a0 : List (Int × Int × ByteArray × Unit)) (a1 : Clo) : Option ((Int × Unit) × Unit) := slices_IndexFunc_impl_Value_impl_Valuex_e D n a1 (slices_IndexFunc_impl_Value_impl_Valuex_LP0 D n a1) a0
def slices_IndexFunc_impl_Value_impl_Valuex_Q0 (a1 : Clo) (x0 : List (Int × Int × ByteArray × Unit)) (x1 : Int) (x2 : Int) : St := stq 19 [(0, AV.val (Ty.sl (Ty.pair (Ty.int IntKind.i64) (Ty.pair (Ty.int IntKind.i64) (Ty.pair Ty.str Ty.unit)))) x0), (1, AV.cloV a1), (7, AV.val (Ty.int IntKind.i64) x1), (8, AV.val (Ty.int IntKind.i64) x2)] []
def slices_IndexFunc_impl_Value_impl_Valuex_Q0_0 (a1 : Clo) (v0_0 : Int) : St := stq 19 [(4, AV.val (Ty.int IntKind.i64) v0_0)] []
def slices_IndexFunc_impl_Value_impl_Valuex_Q0_1 (a1 : Clo) : St := stq 19 [] []
theorem slices_IndexFunc_impl_Value_impl_Valuex_SB0 (D : Den ctx) (n : Nat) (a1 : Clo) (m : Nat) (K : Ex → St → Option (Out ctx 158)) (x0 : List (Int × Int × ByteArray × Unit)) (x1 : Int) (x2 : Int) :
  LQ funcTab D n 158 [.r, .l, .r, .l] (m + 1) (slices_IndexFunc_impl_Value_impl_Valuex_Q0 a1 x0 x1 x2) K = slices_IndexFunc_impl_Value_impl_Valuex_b0 D n a1 (fun x0 x1 x2 => LQ funcTab D n 158 [.r, .l, .r, .l] m (slices_IndexFunc_impl_Value_impl_Valuex_Q0 a1 x0 x1 x2) K) (fun v0_0 => K (Ex.ret) (slices_IndexFunc_impl_Value_impl_Valuex_Q0_0 a1 v0_0)) (K (Ex.exit 0) (slices_IndexFunc_impl_Value_impl_Valuex_Q0_1 a1)) x0 x1 x2 := by kernel_rfl
theorem slices_IndexFunc_impl_Value_impl_Valuex_EL0 (D : Den ctx) (n : Nat) (a1 : Clo) (K : Ex → St → Option (Out ctx 158)) : ∀ (m : Nat) (x0 : List (Int × Int × ByteArray × Unit)) (x1 : Int) (x2 : Int), LQ funcTab D n 158 [.r, .l, .r, .l] m (slices_IndexFunc_impl_Value_impl_Valuex_Q0 a1 x0 x1 x2) K = slices_IndexFunc_impl_Value_impl_Valuex_L0 D n a1 (fun v0_0 => K (Ex.ret) (slices_IndexFunc_impl_Value_impl_Valuex_Q0_0 a1 v0_0)) (K (Ex.exit 0) (slices_IndexFunc_impl_Value_impl_Valuex_Q0_1 a1)) m x0 x1 x2
  | 0, x0, x1, x2 => LQ_zero ..
  | m + 1, x0, x1, x2 => by
    have ih : (fun x0 x1 x2 => LQ funcTab D n 158 [.r, .l, .r, .l] m (slices_IndexFunc_impl_Value_impl_Valuex_Q0 a1 x0 x1 x2) K) = slices_IndexFunc_impl_Value_impl_Valuex_L0 D n a1 (fun v0_0 => K (Ex.ret) (slices_IndexFunc_impl_Value_impl_Valuex_Q0_0 a1 v0_0)) (K (Ex.exit 0) (slices_IndexFunc_impl_Value_impl_Valuex_Q0_1 a1)) m := by funext x0 x1 x2; exact slices_IndexFunc_impl_Value_impl_Valuex_EL0 D n a1 K m x0 x1 x2
    rw [slices_IndexFunc_impl_Value_impl_Valuex_SB0]
    rw [ih]; rfl
theorem slices_IndexFunc_impl_Value_impl_Valuex_X0_0 (D : Den ctx) (n : Nat) (a1 : Clo) (v0_0 : Int) :
  (CQ funcTab D n 158 [] [.r, .l, .r, .l] (lastK funcTab 158)) (Ex.ret) (slices_IndexFunc_impl_Value_impl_Valuex_Q0_0 a1 v0_0) = slices_IndexFunc_impl_Value_impl_Valuex_x0_0 D n a1 v0_0 := by kernel_rfl
theorem slices_IndexFunc_impl_Value_impl_Valuex_X0_1 (D : Den ctx) (n : Nat) (a1 : Clo) :
  (CQ funcTab D n 158 [] [.r, .l, .r, .l] (lastK funcTab 158)) (Ex.exit 0) (slices_IndexFunc_impl_Value_impl_Valuex_Q0_1 a1) = slices_IndexFunc_impl_Value_impl_Valuex_x0_1 D n a1 := by kernel_rfl
theorem slices_IndexFunc_impl_Value_impl_Valuex_ELP0 (D : Den ctx) (n : Nat) (a1 : Clo) (x0 : List (Int × Int × ByteArray × Unit)) (x1 : Int) (x2 : Int) :
  LQ funcTab D n 158 [.r, .l, .r, .l] n (slices_IndexFunc_impl_Value_impl_Valuex_Q0 a1 x0 x1 x2) (CQ funcTab D n 158 [] [.r, .l, .r, .l] (lastK funcTab 158)) = slices_IndexFunc_impl_Value_impl_Valuex_LP0 D n a1 x0 x1 x2 := by
  rw [slices_IndexFunc_impl_Value_impl_Valuex_EL0]
  simp only [slices_IndexFunc_impl_Value_impl_Valuex_X0_0, slices_IndexFunc_impl_Value_impl_Valuex_X0_1]
  rfl
theorem E_slices_IndexFunc_impl_Value_impl_Valuex (D : Den ctx) (n : Nat) (a0 : List (Int × Int × ByteArray × Unit)) (a1 : Clo) : rfC funcTab D n 158 (a0, (a1, ())) = F_slices_IndexFunc_impl_Value_impl_Valuex D n a0 a1 := by
  have h : rfC funcTab D n 158 (a0, (a1, ())) = slices_IndexFunc_impl_Value_impl_Valuex_e D n a1 (fun x0 x1 x2 => LQ funcTab D n 158 [.r, .l, .r, .l] n (slices_IndexFunc_impl_Value_impl_Valuex_Q0 a1 x0 x1 x2) (CQ funcTab D n 158 [] [.r, .l, .r, .l] (lastK funcTab 158))) a0 := by kernel_rfl
  rw [h]
  simp only [slices_IndexFunc_impl_Value_impl_Valuex_ELP0]
  rfl
end Go.G

namespace Go.G
set_option maxRecDepth 100000
set_option maxHeartbeats 0
open Go Go.V
noncomputable def laws_heldColS_b0 (D : Den ctx) (n : Nat) (go : List (ByteArray × Int × Bool × Unit) → Int → Int → Option ((Int × Unit) × Unit)) (K0 : Int → Int → Option ((Int × Unit) × Unit)) (K1 : Int → Option ((Int × Unit) × Unit)) (x0 : List (ByteArray × Int × Bool × Unit)) (x1 : Int) (x2 : Int) : Option ((Int × Unit) × Unit) := br (decide (x2 < (↑(List.length x0) : Int))) (br (decide (0 ≤ x2) && decide (x2 < (↑(List.length x0) : Int))) (bindD (C_laws_markText D x1) fun b ↦ br (!List.beq (ByteArray.toList (Prod.fst (List.getD x0 (Int.toNat x2) (ByteArray.empty, 0, false, ())))) (ByteArray.toList (Prod.fst (Prod.fst b)))) (K0 x1 (-1)) (br (decide (0 ≤ x2) && decide (x2 < (↑(List.length x0) : Int))) (br (Prod.fst (Prod.snd (List.getD x0 (Int.toNat x2) (ByteArray.empty, 0, false, ()))) != IntKind.wrap IntKind.i64 (x1 + 1)) (K0 (IntKind.wrap IntKind.i64 (x1 + 1)) (-1)) (br (decide (0 ≤ x2) && decide (x2 < (↑(List.length x0) : Int))) (br (!decide (Prod.fst (Prod.snd (Prod.snd (List.getD x0 (Int.toNat x2) (ByteArray.empty, 0, false, ())))) = decide (Int.tmod (IntKind.wrap IntKind.i64 (IntKind.wrap IntKind.i64 (x1 + 1) + 1)) 3 = 0))) (K0 (IntKind.wrap IntKind.i64 (IntKind.wrap IntKind.i64 (x1 + 1) + 1)) (-1)) (go x0 (IntKind.wrap IntKind.i64 (IntKind.wrap IntKind.i64 (IntKind.wrap IntKind.i64 (x1 + 1) + 1) + 1)) (IntKind.wrap IntKind.i64 (x2 + 1)))) none)) none)) none) (K1 x1)
noncomputable def laws_heldColS_L0 (D : Den ctx) (n : Nat) (K0 : Int → Int → Option ((Int × Unit) × Unit)) (K1 : Int → Option ((Int × Unit) × Unit)) : Nat → (List (ByteArray × Int × Bool × Unit)) → (Int) → (Int) → Option ((Int × Unit) × Unit) | 0 => (fun x0 x1 x2 => none) | m + 1 => (fun x0 x1 x2 => laws_heldColS_b0 D n (laws_heldColS_L0 D n K0 K1 m) K0 K1 x0 x1 x2)
noncomputable def laws_heldColS_x0_0 (D : Den ctx) (n : Nat) (v0_0 : Int) (v0_1 : Int) : Option ((Int × Unit) × Unit) := some ((v0_1, ()), ())
noncomputable def laws_heldColS_x0_1 (D : Den ctx) (n : Nat) (v1_0 : Int) : Option ((Int × Unit) × Unit) := some ((v1_0, ()), ())
noncomputable def laws_heldColS_LP0 (D : Den ctx) (n : Nat) : (List (ByteArray × Int × Bool × Unit)) → (Int) → (Int) → Option ((Int × Unit) × Unit) := (fun x0 x1 x2 => laws_heldColS_L0 D n (fun v0_0 v0_1 => laws_heldColS_x0_0 D n v0_0 v0_1) (fun v1_0 => laws_heldColS_x0_1 D n v1_0) n x0 x1 x2)
noncomputable def laws_heldColS_e (D : Den ctx) (n : Nat) (lp0 : List (ByteArray × Int × Bool × Unit) → Int → Int → Option ((Int × Unit) × Unit)) (a0 : List (ByteArray × Int × Bool × Unit)) (a1 : Int) : Option ((Int × Unit) × Unit) := lp0 a0 a1 0
noncomputable def F_laws_heldColS (D : Den ctx) (n : Nat) (a0 : List (ByteArray × Int × Bool × Unit)) (a1 : Int) : Option ((Int × Unit) × Unit) := laws_heldColS_e D n (laws_heldColS_LP0 D n) a0 a1
def laws_heldColS_Q0 (x0 : List (ByteArray × Int × Bool × Unit)) (x1 : Int) (x2 : Int) : St := stq 43 [(0, AV.val (Ty.sl (Ty.pair Ty.str (Ty.pair (Ty.int IntKind.i64) (Ty.pair Ty.bool Ty.unit)))) x0), (1, AV.val (Ty.int IntKind.i64) x1), (5, AV.val (Ty.int IntKind.i64) x2)] []
def laws_heldColS_Q0_0 (v0_0 : Int) (v0_1 : Int) : St := stq 43 [(1, AV.val (Ty.int IntKind.i64) v0_0), (4, AV.val (Ty.int IntKind.i64) v0_1)] []
def laws_heldColS_Q0_1 (v1_0 : Int) : St := stq 43 [(1, AV.val (Ty.int IntKind.i64) v1_0)] []
theorem laws_heldColS_SB0 (D : Den ctx) (n : Nat) (m : Nat) (K : Ex → St → Option (Out ctx 178)) (x0 : List (ByteArray × Int × Bool × Unit)) (x1 : Int) (x2 : Int) :
  LQ funcTab D n 178 [.r, .l, .r, .l] (m + 1) (laws_heldColS_Q0 x0 x1 x2) K = laws_heldColS_b0 D n (fun x0 x1 x2 => LQ funcTab D n 178 [.r, .l, .r, .l] m (laws_heldColS_Q0 x0 x1 x2) K) (fun v0_0 v0_1 => K (Ex.ret) (laws_heldColS_Q0_0 v0_0 v0_1)) (fun v1_0 => K (Ex.exit 0) (laws_heldColS_Q0_1 v1_0)) x0 x1 x2 := by kernel_rfl
theorem laws_heldColS_EL0 (D : Den ctx) (n : Nat) (K : Ex → St → Option (Out ctx 178)) : ∀ (m : Nat) (x0 : List (ByteArray × Int × Bool × Unit)) (x1 : Int) (x2 : Int), LQ funcTab D n 178 [.r, .l, .r, .l] m (laws_heldColS_Q0 x0 x1 x2) K = laws_heldColS_L0 D n (fun v0_0 v0_1 => K (Ex.ret) (laws_heldColS_Q0_0 v0_0 v0_1)) (fun v1_0 => K (Ex.exit 0) (laws_heldColS_Q0_1 v1_0)) m x0 x1 x2
  | 0, x0, x1, x2 => LQ_zero ..
  | m + 1, x0, x1, x2 => by
    have ih : (fun x0 x1 x2 => LQ funcTab D n 178 [.r, .l, .r, .l] m (laws_heldColS_Q0 x0 x1 x2) K) = laws_heldColS_L0 D n (fun v0_0 v0_1 => K (Ex.ret) (laws_heldColS_Q0_0 v0_0 v0_1)) (fun v1_0 => K (Ex.exit 0) (laws_heldColS_Q0_1 v1_0)) m := by funext x0 x1 x2; exact laws_heldColS_EL0 D n K m x0 x1 x2
    rw [laws_heldColS_SB0]
    rw [ih]; rfl
theorem laws_heldColS_X0_0 (D : Den ctx) (n : Nat) (v0_0 : Int) (v0_1 : Int) :
  (CQ funcTab D n 178 [] [.r, .l, .r, .l] (lastK funcTab 178)) (Ex.ret) (laws_heldColS_Q0_0 v0_0 v0_1) = laws_heldColS_x0_0 D n v0_0 v0_1 := by kernel_rfl
theorem laws_heldColS_X0_1 (D : Den ctx) (n : Nat) (v1_0 : Int) :
  (CQ funcTab D n 178 [] [.r, .l, .r, .l] (lastK funcTab 178)) (Ex.exit 0) (laws_heldColS_Q0_1 v1_0) = laws_heldColS_x0_1 D n v1_0 := by kernel_rfl
theorem laws_heldColS_ELP0 (D : Den ctx) (n : Nat) (x0 : List (ByteArray × Int × Bool × Unit)) (x1 : Int) (x2 : Int) :
  LQ funcTab D n 178 [.r, .l, .r, .l] n (laws_heldColS_Q0 x0 x1 x2) (CQ funcTab D n 178 [] [.r, .l, .r, .l] (lastK funcTab 178)) = laws_heldColS_LP0 D n x0 x1 x2 := by
  rw [laws_heldColS_EL0]
  simp only [laws_heldColS_X0_0, laws_heldColS_X0_1]
  rfl
theorem E_laws_heldColS (D : Den ctx) (n : Nat) (a0 : List (ByteArray × Int × Bool × Unit)) (a1 : Int) : rfC funcTab D n 178 (a0, (a1, ())) = F_laws_heldColS D n a0 a1 := by
  have h : rfC funcTab D n 178 (a0, (a1, ())) = laws_heldColS_e D n (fun x0 x1 x2 => LQ funcTab D n 178 [.r, .l, .r, .l] n (laws_heldColS_Q0 x0 x1 x2) (CQ funcTab D n 178 [] [.r, .l, .r, .l] (lastK funcTab 178))) a0 a1 := by kernel_rfl
  rw [h]
  simp only [laws_heldColS_ELP0]
  rfl
end Go.G

namespace Go.G
set_option maxRecDepth 100000
set_option maxHeartbeats 0
open Go Go.V
noncomputable def laws_heldIntS_b0 (D : Den ctx) (n : Nat) (go : List Int → Int → Int → Option ((Int × Unit) × Unit)) (K0 : Int → Int → Option ((Int × Unit) × Unit)) (K1 : Int → Option ((Int × Unit) × Unit)) (x0 : List Int) (x1 : Int) (x2 : Int) : Option ((Int × Unit) × Unit) := br (decide (x2 < (↑(List.length x0) : Int))) (br (decide (0 ≤ x2) && decide (x2 < (↑(List.length x0) : Int))) (br (List.getD x0 (Int.toNat x2) 0 != x1) (K0 x1 (-1)) (go x0 (IntKind.wrap IntKind.i64 (x1 + 1)) (IntKind.wrap IntKind.i64 (x2 + 1)))) none) (K1 x1)
noncomputable def laws_heldIntS_L0 (D : Den ctx) (n : Nat) (K0 : Int → Int → Option ((Int × Unit) × Unit)) (K1 : Int → Option ((Int × Unit) × Unit)) : Nat → (List Int) → (Int) → (Int) → Option ((Int × Unit) × Unit) | 0 => (fun x0 x1 x2 => none) | m + 1 => (fun x0 x1 x2 => laws_heldIntS_b0 D n (laws_heldIntS_L0 D n K0 K1 m) K0 K1 x0 x1 x2)
noncomputable def laws_heldIntS_x0_0 (D : Den ctx) (n : Nat) (v0_0 : Int) (v0_1 : Int) : Option ((Int × Unit) × Unit) := some ((v0_1, ()), ())
noncomputable def laws_heldIntS_x0_1 (D : Den ctx) (n : Nat) (v1_0 : Int) : Option ((Int × Unit) × Unit) := some ((v1_0, ()), ())
noncomputable def laws_heldIntS_LP0 (D : Den ctx) (n : Nat) : (List Int) → (Int) → (Int) → Option ((Int × Unit) × Unit) := (fun x0 x1 x2 => laws_heldIntS_L0 D n (fun v0_0 v0_1 => laws_heldIntS_x0_0 D n v0_0 v0_1) (fun v1_0 => laws_heldIntS_x0_1 D n v1_0) n x0 x1 x2)
noncomputable def laws_heldIntS_e (D : Den ctx) (n : Nat) (lp0 : List Int → Int → Int → Option ((Int × Unit) × Unit)) (a0 : List Int) (a1 : Int) : Option ((Int × Unit) × Unit) := lp0 a0 a1 0
noncomputable def F_laws_heldIntS (D : Den ctx) (n : Nat) (a0 : List Int) (a1 : Int) : Option ((Int × Unit) × Unit) := laws_heldIntS_e D n (laws_heldIntS_LP0 D n) a0 a1
def laws_heldIntS_Q0 (x0 : List Int) (x1 : Int) (x2 : Int) : St := stq 21 [(0, AV.val (Ty.sl (Ty.int IntKind.i64)) x0), (1, AV.val (Ty.int IntKind.i64) x1), (5, AV.val (Ty.int IntKind.i64) x2)] []
def laws_heldIntS_Q0_0 (v0_0 : Int) (v0_1 : Int) : St := stq 21 [(1, AV.val (Ty.int IntKind.i64) v0_0), (4, AV.val (Ty.int IntKind.i64) v0_1)] []
def laws_heldIntS_Q0_1 (v1_0 : Int) : St := stq 21 [(1, AV.val (Ty.int IntKind.i64) v1_0)] []
theorem laws_heldIntS_SB0 (D : Den ctx) (n : Nat) (m : Nat) (K : Ex → St → Option (Out ctx 179)) (x0 : List Int) (x1 : Int) (x2 : Int) :
  LQ funcTab D n 179 [.r, .l, .r, .l] (m + 1) (laws_heldIntS_Q0 x0 x1 x2) K = laws_heldIntS_b0 D n (fun x0 x1 x2 => LQ funcTab D n 179 [.r, .l, .r, .l] m (laws_heldIntS_Q0 x0 x1 x2) K) (fun v0_0 v0_1 => K (Ex.ret) (laws_heldIntS_Q0_0 v0_0 v0_1)) (fun v1_0 => K (Ex.exit 0) (laws_heldIntS_Q0_1 v1_0)) x0 x1 x2 := by kernel_rfl
theorem laws_heldIntS_EL0 (D : Den ctx) (n : Nat) (K : Ex → St → Option (Out ctx 179)) : ∀ (m : Nat) (x0 : List Int) (x1 : Int) (x2 : Int), LQ funcTab D n 179 [.r, .l, .r, .l] m (laws_heldIntS_Q0 x0 x1 x2) K = laws_heldIntS_L0 D n (fun v0_0 v0_1 => K (Ex.ret) (laws_heldIntS_Q0_0 v0_0 v0_1)) (fun v1_0 => K (Ex.exit 0) (laws_heldIntS_Q0_1 v1_0)) m x0 x1 x2
  | 0, x0, x1, x2 => LQ_zero ..
  | m + 1, x0, x1, x2 => by
    have ih : (fun x0 x1 x2 => LQ funcTab D n 179 [.r, .l, .r, .l] m (laws_heldIntS_Q0 x0 x1 x2) K) = laws_heldIntS_L0 D n (fun v0_0 v0_1 => K (Ex.ret) (laws_heldIntS_Q0_0 v0_0 v0_1)) (fun v1_0 => K (Ex.exit 0) (laws_heldIntS_Q0_1 v1_0)) m := by funext x0 x1 x2; exact laws_heldIntS_EL0 D n K m x0 x1 x2
    rw [laws_heldIntS_SB0]
    rw [ih]; rfl
theorem laws_heldIntS_X0_0 (D : Den ctx) (n : Nat) (v0_0 : Int) (v0_1 : Int) :
  (CQ funcTab D n 179 [] [.r, .l, .r, .l] (lastK funcTab 179)) (Ex.ret) (laws_heldIntS_Q0_0 v0_0 v0_1) = laws_heldIntS_x0_0 D n v0_0 v0_1 := by kernel_rfl
theorem laws_heldIntS_X0_1 (D : Den ctx) (n : Nat) (v1_0 : Int) :
  (CQ funcTab D n 179 [] [.r, .l, .r, .l] (lastK funcTab 179)) (Ex.exit 0) (laws_heldIntS_Q0_1 v1_0) = laws_heldIntS_x0_1 D n v1_0 := by kernel_rfl
theorem laws_heldIntS_ELP0 (D : Den ctx) (n : Nat) (x0 : List Int) (x1 : Int) (x2 : Int) :
  LQ funcTab D n 179 [.r, .l, .r, .l] n (laws_heldIntS_Q0 x0 x1 x2) (CQ funcTab D n 179 [] [.r, .l, .r, .l] (lastK funcTab 179)) = laws_heldIntS_LP0 D n x0 x1 x2 := by
  rw [laws_heldIntS_EL0]
  simp only [laws_heldIntS_X0_0, laws_heldIntS_X0_1]
  rfl
theorem E_laws_heldIntS (D : Den ctx) (n : Nat) (a0 : List Int) (a1 : Int) : rfC funcTab D n 179 (a0, (a1, ())) = F_laws_heldIntS D n a0 a1 := by
  have h : rfC funcTab D n 179 (a0, (a1, ())) = laws_heldIntS_e D n (fun x0 x1 x2 => LQ funcTab D n 179 [.r, .l, .r, .l] n (laws_heldIntS_Q0 x0 x1 x2) (CQ funcTab D n 179 [] [.r, .l, .r, .l] (lastK funcTab 179))) a0 a1 := by kernel_rfl
  rw [h]
  simp only [laws_heldIntS_ELP0]
  rfl
end Go.G

namespace Go.G
set_option maxRecDepth 100000
set_option maxHeartbeats 0
open Go Go.V
noncomputable def laws_heldIndexS_b0 (D : Den ctx) (n : Nat) (go : List (ByteArray × List Int × Bool × Unit) → Int → Int → Option ((Int × Unit) × Unit)) (K0 : Int → Int → Option ((Int × Unit) × Unit)) (K1 : Int → Option ((Int × Unit) × Unit)) (x0 : List (ByteArray × List Int × Bool × Unit)) (x1 : Int) (x2 : Int) : Option ((Int × Unit) × Unit) := br (decide (x2 < (↑(List.length x0) : Int))) (br (decide (0 ≤ x2) && decide (x2 < (↑(List.length x0) : Int))) (bindD (C_laws_markText D x1) fun b ↦ br (!List.beq (ByteArray.toList (Prod.fst (List.getD x0 (Int.toNat x2) (ByteArray.empty, [], false, ())))) (ByteArray.toList (Prod.fst (Prod.fst b)))) (K0 x1 (-1)) (br (decide (0 ≤ x2) && decide (x2 < (↑(List.length x0) : Int))) (bindD (C_laws_heldIntS D (Prod.fst (Prod.snd (List.getD x0 (Int.toNat x2) (ByteArray.empty, [], false, ())))) (IntKind.wrap IntKind.i64 (x1 + 1))) fun b ↦ br (decide (Prod.fst (Prod.fst b) < 0)) (K0 (Prod.fst (Prod.fst b)) (-1)) (br (decide (0 ≤ x2) && decide (x2 < (↑(List.length x0) : Int))) (br (!decide (Prod.fst (Prod.snd (Prod.snd (List.getD x0 (Int.toNat x2) (ByteArray.empty, [], false, ())))) = decide (Int.tmod (Prod.fst (Prod.fst b)) 3 = 0))) (K0 (Prod.fst (Prod.fst b)) (-1)) (go x0 (IntKind.wrap IntKind.i64 (Prod.fst (Prod.fst b) + 1)) (IntKind.wrap IntKind.i64 (x2 + 1)))) none)) none)) none) (K1 x1)
noncomputable def laws_heldIndexS_L0 (D : Den ctx) (n : Nat) (K0 : Int → Int → Option ((Int × Unit) × Unit)) (K1 : Int → Option ((Int × Unit) × Unit)) : Nat → (List (ByteArray × List Int × Bool × Unit)) → (Int) → (Int) → Option ((Int × Unit) × Unit) | 0 => (fun x0 x1 x2 => none) | m + 1 => (fun x0 x1 x2 => laws_heldIndexS_b0 D n (laws_heldIndexS_L0 D n K0 K1 m) K0 K1 x0 x1 x2)
noncomputable def laws_heldIndexS_x0_0 (D : Den ctx) (n : Nat) (v0_0 : Int) (v0_1 : Int) : Option ((Int × Unit) × Unit) := some ((v0_1, ()), ())
noncomputable def laws_heldIndexS_x0_1 (D : Den ctx) (n : Nat) (v1_0 : Int) : Option ((Int × Unit) × Unit) := some ((v1_0, ()), ())
noncomputable def laws_heldIndexS_LP0 (D : Den ctx) (n : Nat) : (List (ByteArray × List Int × Bool × Unit)) → (Int) → (Int) → Option ((Int × Unit) × Unit) := (fun x0 x1 x2 => laws_heldIndexS_L0 D n (fun v0_0 v0_1 => laws_heldIndexS_x0_0 D n v0_0 v0_1) (fun v1_0 => laws_heldIndexS_x0_1 D n v1_0) n x0 x1 x2)
noncomputable def laws_heldIndexS_e (D : Den ctx) (n : Nat) (lp0 : List (ByteArray × List Int × Bool × Unit) → Int → Int → Option ((Int × Unit) × Unit)) (a0 : List (ByteArray × List Int × Bool × Unit)) (a1 : Int) : Option ((Int × Unit) × Unit) := lp0 a0 a1 0
noncomputable def F_laws_heldIndexS (D : Den ctx) (n : Nat) (a0 : List (ByteArray × List Int × Bool × Unit)) (a1 : Int) : Option ((Int × Unit) × Unit) := laws_heldIndexS_e D n (laws_heldIndexS_LP0 D n) a0 a1
def laws_heldIndexS_Q0 (x0 : List (ByteArray × List Int × Bool × Unit)) (x1 : Int) (x2 : Int) : St := stq 43 [(0, AV.val (Ty.sl (Ty.pair Ty.str (Ty.pair (Ty.sl (Ty.int IntKind.i64)) (Ty.pair Ty.bool Ty.unit)))) x0), (1, AV.val (Ty.int IntKind.i64) x1), (5, AV.val (Ty.int IntKind.i64) x2)] []
def laws_heldIndexS_Q0_0 (v0_0 : Int) (v0_1 : Int) : St := stq 43 [(1, AV.val (Ty.int IntKind.i64) v0_0), (4, AV.val (Ty.int IntKind.i64) v0_1)] []
def laws_heldIndexS_Q0_1 (v1_0 : Int) : St := stq 43 [(1, AV.val (Ty.int IntKind.i64) v1_0)] []
theorem laws_heldIndexS_SB0 (D : Den ctx) (n : Nat) (m : Nat) (K : Ex → St → Option (Out ctx 180)) (x0 : List (ByteArray × List Int × Bool × Unit)) (x1 : Int) (x2 : Int) :
  LQ funcTab D n 180 [.r, .l, .r, .l] (m + 1) (laws_heldIndexS_Q0 x0 x1 x2) K = laws_heldIndexS_b0 D n (fun x0 x1 x2 => LQ funcTab D n 180 [.r, .l, .r, .l] m (laws_heldIndexS_Q0 x0 x1 x2) K) (fun v0_0 v0_1 => K (Ex.ret) (laws_heldIndexS_Q0_0 v0_0 v0_1)) (fun v1_0 => K (Ex.exit 0) (laws_heldIndexS_Q0_1 v1_0)) x0 x1 x2 := by kernel_rfl
theorem laws_heldIndexS_EL0 (D : Den ctx) (n : Nat) (K : Ex → St → Option (Out ctx 180)) : ∀ (m : Nat) (x0 : List (ByteArray × List Int × Bool × Unit)) (x1 : Int) (x2 : Int), LQ funcTab D n 180 [.r, .l, .r, .l] m (laws_heldIndexS_Q0 x0 x1 x2) K = laws_heldIndexS_L0 D n (fun v0_0 v0_1 => K (Ex.ret) (laws_heldIndexS_Q0_0 v0_0 v0_1)) (fun v1_0 => K (Ex.exit 0) (laws_heldIndexS_Q0_1 v1_0)) m x0 x1 x2
  | 0, x0, x1, x2 => LQ_zero ..
  | m + 1, x0, x1, x2 => by
    have ih : (fun x0 x1 x2 => LQ funcTab D n 180 [.r, .l, .r, .l] m (laws_heldIndexS_Q0 x0 x1 x2) K) = laws_heldIndexS_L0 D n (fun v0_0 v0_1 => K (Ex.ret) (laws_heldIndexS_Q0_0 v0_0 v0_1)) (fun v1_0 => K (Ex.exit 0) (laws_heldIndexS_Q0_1 v1_0)) m := by funext x0 x1 x2; exact laws_heldIndexS_EL0 D n K m x0 x1 x2
    rw [laws_heldIndexS_SB0]
    rw [ih]; rfl
theorem laws_heldIndexS_X0_0 (D : Den ctx) (n : Nat) (v0_0 : Int) (v0_1 : Int) :
  (CQ funcTab D n 180 [] [.r, .l, .r, .l] (lastK funcTab 180)) (Ex.ret) (laws_heldIndexS_Q0_0 v0_0 v0_1) = laws_heldIndexS_x0_0 D n v0_0 v0_1 := by kernel_rfl
theorem laws_heldIndexS_X0_1 (D : Den ctx) (n : Nat) (v1_0 : Int) :
  (CQ funcTab D n 180 [] [.r, .l, .r, .l] (lastK funcTab 180)) (Ex.exit 0) (laws_heldIndexS_Q0_1 v1_0) = laws_heldIndexS_x0_1 D n v1_0 := by kernel_rfl
theorem laws_heldIndexS_ELP0 (D : Den ctx) (n : Nat) (x0 : List (ByteArray × List Int × Bool × Unit)) (x1 : Int) (x2 : Int) :
  LQ funcTab D n 180 [.r, .l, .r, .l] n (laws_heldIndexS_Q0 x0 x1 x2) (CQ funcTab D n 180 [] [.r, .l, .r, .l] (lastK funcTab 180)) = laws_heldIndexS_LP0 D n x0 x1 x2 := by
  rw [laws_heldIndexS_EL0]
  simp only [laws_heldIndexS_X0_0, laws_heldIndexS_X0_1]
  rfl
theorem E_laws_heldIndexS (D : Den ctx) (n : Nat) (a0 : List (ByteArray × List Int × Bool × Unit)) (a1 : Int) : rfC funcTab D n 180 (a0, (a1, ())) = F_laws_heldIndexS D n a0 a1 := by
  have h : rfC funcTab D n 180 (a0, (a1, ())) = laws_heldIndexS_e D n (fun x0 x1 x2 => LQ funcTab D n 180 [.r, .l, .r, .l] n (laws_heldIndexS_Q0 x0 x1 x2) (CQ funcTab D n 180 [] [.r, .l, .r, .l] (lastK funcTab 180))) a0 a1 := by kernel_rfl
  rw [h]
  simp only [laws_heldIndexS_ELP0]
  rfl
end Go.G

namespace Go.G
set_option maxRecDepth 100000
set_option maxHeartbeats 0
open Go Go.V
noncomputable def slices_Index_int_int_b0 (D : Den ctx) (n : Nat) (go : List Int → Int → Int → Int → Option ((Int × Unit) × Unit)) (K0 : Int → Option ((Int × Unit) × Unit)) (K1 : Option ((Int × Unit) × Unit)) (x0 : List Int) (x1 : Int) (x2 : Int) (x3 : Int) : Option ((Int × Unit) × Unit) := br (decide (x3 < x2)) (br (decide (0 ≤ x3) && decide (x3 < (↑(List.length x0) : Int))) (br (decide (x1 = List.getD x0 (Int.toNat x3) 0)) (K0 x3) (go x0 x1 x2 (IntKind.wrap IntKind.i64 (x3 + 1)))) none) K1
noncomputable def slices_Index_int_int_L0 (D : Den ctx) (n : Nat) (K0 : Int → Option ((Int × Unit) × Unit)) (K1 : Option ((Int × Unit) × Unit)) : Nat → (List Int) → (Int) → (Int) → (Int) → Option ((Int × Unit) × Unit) | 0 => (fun x0 x1 x2 x3 => none) | m + 1 => (fun x0 x1 x2 x3 => slices_Index_int_int_b0 D n (slices_Index_int_int_L0 D n K0 K1 m) K0 K1 x0 x1 x2 x3)
noncomputable def slices_Index_int_int_x0_0 (D : Den ctx) (n : Nat) (v0_0 : Int) : Option ((Int × Unit) × Unit) := some ((v0_0, ()), ())
noncomputable def slices_Index_int_int_x0_1 (D : Den ctx) (n : Nat) : Option ((Int × Unit) × Unit) := some ((-1, ()), ())
noncomputable def slices_Index_int_int_LP0 (D : Den ctx) (n : Nat) : (List Int) → (Int) → (Int) → (Int) → Option ((Int × Unit) × Unit) := (fun x0 x1 x2 x3 => slices_Index_int_int_L0 D n (fun v0_0 => slices_Index_int_int_x0_0 D n v0_0) (slices_Index_int_int_x0_1 D n) n x0 x1 x2 x3)
noncomputable def slices_Index_int_int_e (D : Den ctx) (n : Nat) (lp0 : List Int → Int → Int → Int → Option ((Int × Unit) × Unit)) (a0 : List Int) (a1 : Int) : Option ((Int × Unit) × Unit) := lp0 a0 a1 (↑(List.length a0) : Int) 0
noncomputable def F_slices_Index_int_int (D : Den ctx) (n : Nat) (a0 : List Int) (a1 : Int) : Option ((Int × Unit) × Unit) := slices_Index_int_int_e D n (slices_Index_int_int_LP0 D n) a0 a1
def slices_Index_int_int_Q0 (x0 : List Int) (x1 : Int) (x2 : Int) (x3 : Int) : St := stq 19 [(0, AV.val (Ty.sl (Ty.int IntKind.i64)) x0), (1, AV.val (Ty.int IntKind.i64) x1), (7, AV.val (Ty.int IntKind.i64) x2), (8, AV.val (Ty.int IntKind.i64) x3)] []
def slices_Index_int_int_Q0_0 (v0_0 : Int) : St := stq 19 [(4, AV.val (Ty.int IntKind.i64) v0_0)] []
def slices_Index_int_int_Q0_1 : St := stq 19 [] []
theorem slices_Index_int_int_SB0 (D : Den ctx) (n : Nat) (m : Nat) (K : Ex → St → Option (Out ctx 186)) (x0 : List Int) (x1 : Int) (x2 : Int) (x3 : Int) :
  LQ funcTab D n 186 [.r, .l, .r, .l] (m + 1) (slices_Index_int_int_Q0 x0 x1 x2 x3) K = slices_Index_int_int_b0 D n (fun x0 x1 x2 x3 => LQ funcTab D n 186 [.r, .l, .r, .l] m (slices_Index_int_int_Q0 x0 x1 x2 x3) K) (fun v0_0 => K (Ex.ret) (slices_Index_int_int_Q0_0 v0_0)) (K (Ex.exit 0) (slices_Index_int_int_Q0_1)) x0 x1 x2 x3 := by kernel_rfl
theorem slices_Index_int_int_EL0 (D : Den ctx) (n : Nat) (K : Ex → St → Option (Out ctx 186)) : ∀ (m : Nat) (x0 : List Int) (x1 : Int) (x2 : Int) (x3 : Int), LQ funcTab D n 186 [.r, .l, .r, .l] m (slices_Index_int_int_Q0 x0 x1 x2 x3) K = slices_Index_int_int_L0 D n (fun v0_0 => K (Ex.ret) (slices_Index_int_int_Q0_0 v0_0)) (K (Ex.exit 0) (slices_Index_int_int_Q0_1)) m x0 x1 x2 x3
  | 0, x0, x1, x2, x3 => LQ_zero ..
  | m + 1, x0, x1, x2, x3 => by
    have ih : (fun x0 x1 x2 x3 => LQ funcTab D n 186 [.r, .l, .r, .l] m (slices_Index_int_int_Q0 x0 x1 x2 x3) K) = slices_Index_int_int_L0 D n (fun v0_0 => K (Ex.ret) (slices_Index_int_int_Q0_0 v0_0)) (K (Ex.exit 0) (slices_Index_int_int_Q0_1)) m := by funext x0 x1 x2 x3; exact slices_Index_int_int_EL0 D n K m x0 x1 x2 x3
    rw [slices_Index_int_int_SB0]
    rw [ih]; rfl
theorem slices_Index_int_int_X0_0 (D : Den ctx) (n : Nat) (v0_0 : Int) :
  (CQ funcTab D n 186 [] [.r, .l, .r, .l] (lastK funcTab 186)) (Ex.ret) (slices_Index_int_int_Q0_0 v0_0) = slices_Index_int_int_x0_0 D n v0_0 := by kernel_rfl
theorem slices_Index_int_int_X0_1 (D : Den ctx) (n : Nat) :
  (CQ funcTab D n 186 [] [.r, .l, .r, .l] (lastK funcTab 186)) (Ex.exit 0) (slices_Index_int_int_Q0_1) = slices_Index_int_int_x0_1 D n := by kernel_rfl
theorem slices_Index_int_int_ELP0 (D : Den ctx) (n : Nat) (x0 : List Int) (x1 : Int) (x2 : Int) (x3 : Int) :
  LQ funcTab D n 186 [.r, .l, .r, .l] n (slices_Index_int_int_Q0 x0 x1 x2 x3) (CQ funcTab D n 186 [] [.r, .l, .r, .l] (lastK funcTab 186)) = slices_Index_int_int_LP0 D n x0 x1 x2 x3 := by
  rw [slices_Index_int_int_EL0]
  simp only [slices_Index_int_int_X0_0, slices_Index_int_int_X0_1]
  rfl
theorem E_slices_Index_int_int (D : Den ctx) (n : Nat) (a0 : List Int) (a1 : Int) : rfC funcTab D n 186 (a0, (a1, ())) = F_slices_Index_int_int D n a0 a1 := by
  have h : rfC funcTab D n 186 (a0, (a1, ())) = slices_Index_int_int_e D n (fun x0 x1 x2 x3 => LQ funcTab D n 186 [.r, .l, .r, .l] n (slices_Index_int_int_Q0 x0 x1 x2 x3) (CQ funcTab D n 186 [] [.r, .l, .r, .l] (lastK funcTab 186))) a0 a1 := by kernel_rfl
  rw [h]
  simp only [slices_Index_int_int_ELP0]
  rfl
end Go.G

namespace Go.G
set_option maxRecDepth 100000
open Go Go.V Go.Proofs
def XOk (X : Ext) : Prop := ∀ k : Nat, (Nat.beq k 132 || Nat.beq k 184) = false → X.is k = false
theorem noExt_ok : XOk noExt := fun _ _ => rfl
theorem S_laws_FnExactKeyOfRow {X : Ext} (hX : XOk X) (n : Nat) (a0 : List (ByteArray × Int × Bool × Unit) × List Int × List (ByteArray × List Int × Bool × Unit) × Unit) (a1 : List (Int × Int × ByteArray × Unit)) : C_laws_FnExactKeyOfRow (DD X (n + 1)) a0 a1 = F_laws_FnExactKeyOfRow (DD X n) n a0 a1 := (DD_succ X Try.func5 (by kernel_rfl) (hX 5 rfl) n _).trans (E_laws_FnExactKeyOfRow ..)
theorem S_laws_szSchema {X : Ext} (hX : XOk X) (n : Nat) (a0 : List (ByteArray × Int × Bool × Unit) × List Int × List (ByteArray × List Int × Bool × Unit) × Unit) (a1 : Int) : C_laws_szSchema (DD X (n + 1)) a0 a1 = F_laws_szSchema (DD X n) n a0 a1 := (DD_succ X Try.func15 (by kernel_rfl) (hX 15 rfl) n _).trans (E_laws_szSchema ..)
theorem S_spec_SchemaOk {X : Ext} (hX : XOk X) (n : Nat) (a0 : List (ByteArray × Int × Bool × Unit) × List Int × List (ByteArray × List Int × Bool × Unit) × Unit) : C_spec_SchemaOk (DD X (n + 1)) a0 = F_spec_SchemaOk (DD X n) n a0 := (DD_succ X Try.func16 (by kernel_rfl) (hX 16 rfl) n _).trans (E_spec_SchemaOk ..)
theorem S_laws_toSchema {X : Ext} (hX : XOk X) (n : Nat) (a0 : List (ByteArray × Int × Bool × Unit) × List Int × List (ByteArray × List Int × Bool × Unit) × Unit) : C_laws_toSchema (DD X (n + 1)) a0 = F_laws_toSchema (DD X n) n a0 := (DD_succ X Try.func17 (by kernel_rfl) (hX 17 rfl) n _).trans (E_laws_toSchema ..)
theorem S_impl_SchemaOk {X : Ext} (hX : XOk X) (n : Nat) (a0 : List (ByteArray × Int × Bool × Unit) × List Int × List (ByteArray × List Int × Bool × Unit) × Unit) : C_impl_SchemaOk (DD X (n + 1)) a0 = F_impl_SchemaOk (DD X n) n a0 := (DD_succ X Try.func18 (by kernel_rfl) (hX 18 rfl) n _).trans (E_impl_SchemaOk ..)
theorem S_laws_eqSchema {X : Ext} (hX : XOk X) (n : Nat) (a0 : List (ByteArray × Int × Bool × Unit) × List Int × List (ByteArray × List Int × Bool × Unit) × Unit) (a1 : List (ByteArray × Int × Bool × Unit) × List Int × List (ByteArray × List Int × Bool × Unit) × Unit) : C_laws_eqSchema (DD X (n + 1)) a0 a1 = F_laws_eqSchema (DD X n) n a0 a1 := (DD_succ X Try.func19 (by kernel_rfl) (hX 19 rfl) n _).trans (E_laws_eqSchema ..)
theorem S_impl_RowOk {X : Ext} (hX : XOk X) (n : Nat) (a0 : List (ByteArray × Int × Bool × Unit) × List Int × List (ByteArray × List Int × Bool × Unit) × Unit) (a1 : List (Int × Int × ByteArray × Unit)) : C_impl_RowOk (DD X (n + 1)) a0 a1 = F_impl_RowOk (DD X n) n a0 a1 := (DD_succ X Try.func26 (by kernel_rfl) (hX 26 rfl) n _).trans (E_impl_RowOk ..)
theorem S_spec_RowOk {X : Ext} (hX : XOk X) (n : Nat) (a0 : List (ByteArray × Int × Bool × Unit) × List Int × List (ByteArray × List Int × Bool × Unit) × Unit) (a1 : List (Int × Int × ByteArray × Unit)) : C_spec_RowOk (DD X (n + 1)) a0 a1 = F_spec_RowOk (DD X n) n a0 a1 := (DD_succ X Try.func27 (by kernel_rfl) (hX 27 rfl) n _).trans (E_spec_RowOk ..)
theorem S_impl_ColNameOk {X : Ext} (hX : XOk X) (n : Nat) (a0 : ByteArray) : C_impl_ColNameOk (DD X (n + 1)) a0 = F_impl_ColNameOk (DD X n) n a0 := (DD_succ X Try.func28 (by kernel_rfl) (hX 28 rfl) n _).trans (E_impl_ColNameOk ..)
theorem S_spec_ColNameOk {X : Ext} (hX : XOk X) (n : Nat) (a0 : ByteArray) : C_spec_ColNameOk (DD X (n + 1)) a0 = F_spec_ColNameOk (DD X n) n a0 := (DD_succ X Try.func29 (by kernel_rfl) (hX 29 rfl) n _).trans (E_spec_ColNameOk ..)
theorem S_impl_ColAt {X : Ext} (hX : XOk X) (n : Nat) (a0 : List (ByteArray × Int × Bool × Unit) × List Int × List (ByteArray × List Int × Bool × Unit) × Unit) (a1 : ByteArray) : C_impl_ColAt (DD X (n + 1)) a0 a1 = F_impl_ColAt (DD X n) n a0 a1 := (DD_succ X Try.func30 (by kernel_rfl) (hX 30 rfl) n _).trans (E_impl_ColAt ..)
theorem S_spec_ColAt {X : Ext} (hX : XOk X) (n : Nat) (a0 : List (ByteArray × Int × Bool × Unit) × List Int × List (ByteArray × List Int × Bool × Unit) × Unit) (a1 : ByteArray) : C_spec_ColAt (DD X (n + 1)) a0 a1 = F_spec_ColAt (DD X n) n a0 a1 := (DD_succ X Try.func31 (by kernel_rfl) (hX 31 rfl) n _).trans (E_spec_ColAt ..)
theorem S_impl_KeyOfRow {X : Ext} (hX : XOk X) (n : Nat) (a0 : List (ByteArray × Int × Bool × Unit) × List Int × List (ByteArray × List Int × Bool × Unit) × Unit) (a1 : List (Int × Int × ByteArray × Unit)) : C_impl_KeyOfRow (DD X (n + 1)) a0 a1 = F_impl_KeyOfRow (DD X n) n a0 a1 := (DD_succ X Try.func33 (by kernel_rfl) (hX 33 rfl) n _).trans (E_impl_KeyOfRow ..)
theorem S_spec_KeyOfRow {X : Ext} (hX : XOk X) (n : Nat) (a0 : List (ByteArray × Int × Bool × Unit) × List Int × List (ByteArray × List Int × Bool × Unit) × Unit) (a1 : List (Int × Int × ByteArray × Unit)) : C_spec_KeyOfRow (DD X (n + 1)) a0 a1 = F_spec_KeyOfRow (DD X n) n a0 a1 := (DD_succ X Try.func34 (by kernel_rfl) (hX 34 rfl) n _).trans (E_spec_KeyOfRow ..)
theorem S_laws_szValueS {X : Ext} (hX : XOk X) (n : Nat) (a0 : List (Int × Int × ByteArray × Unit)) (a1 : Int) : C_laws_szValueS (DD X (n + 1)) a0 a1 = F_laws_szValueS (DD X n) n a0 a1 := (DD_succ X Try.func36 (by kernel_rfl) (hX 36 rfl) n _).trans (E_laws_szValueS ..)
theorem S_laws_toValueS {X : Ext} (hX : XOk X) (n : Nat) (a0 : List (Int × Int × ByteArray × Unit)) : C_laws_toValueS (DD X (n + 1)) a0 = F_laws_toValueS (DD X n) n a0 := (DD_succ X Try.func37 (by kernel_rfl) (hX 37 rfl) n _).trans (E_laws_toValueS ..)
theorem S_laws_eqValueS {X : Ext} (hX : XOk X) (n : Nat) (a0 : List (Int × Int × ByteArray × Unit)) (a1 : List (Int × Int × ByteArray × Unit)) : C_laws_eqValueS (DD X (n + 1)) a0 a1 = F_laws_eqValueS (DD X n) n a0 a1 := (DD_succ X Try.func38 (by kernel_rfl) (hX 38 rfl) n _).trans (E_laws_eqValueS ..)
theorem S_laws_markSchema {X : Ext} (hX : XOk X) (n : Nat) (a0 : List (ByteArray × Int × Bool × Unit) × List Int × List (ByteArray × List Int × Bool × Unit) × Unit) (a1 : Int) : C_laws_markSchema (DD X (n + 1)) a0 a1 = F_laws_markSchema (DD X n) n a0 a1 := (DD_succ X Try.func39 (by kernel_rfl) (hX 39 rfl) n _).trans (E_laws_markSchema ..)
theorem S_laws_markValueS {X : Ext} (hX : XOk X) (n : Nat) (a0 : List (Int × Int × ByteArray × Unit)) (a1 : Int) : C_laws_markValueS (DD X (n + 1)) a0 a1 = F_laws_markValueS (DD X n) n a0 a1 := (DD_succ X Try.func40 (by kernel_rfl) (hX 40 rfl) n _).trans (E_laws_markValueS ..)
theorem S_laws_heldValueS {X : Ext} (hX : XOk X) (n : Nat) (a0 : List (Int × Int × ByteArray × Unit)) (a1 : Int) : C_laws_heldValueS (DD X (n + 1)) a0 a1 = F_laws_heldValueS (DD X n) n a0 a1 := (DD_succ X Try.func41 (by kernel_rfl) (hX 41 rfl) n _).trans (E_laws_heldValueS ..)
theorem S_impl_Project {X : Ext} (hX : XOk X) (n : Nat) (a0 : List (Int × Int × ByteArray × Unit)) (a1 : List Int) : C_impl_Project (DD X (n + 1)) a0 a1 = F_impl_Project (DD X n) n a0 a1 := (DD_succ X Try.func56 (by kernel_rfl) (hX 56 rfl) n _).trans (E_impl_Project ..)
theorem S_laws_szColS {X : Ext} (hX : XOk X) (n : Nat) (a0 : List (ByteArray × Int × Bool × Unit)) (a1 : Int) : C_laws_szColS (DD X (n + 1)) a0 a1 = F_laws_szColS (DD X n) n a0 a1 := (DD_succ X Try.func70 (by kernel_rfl) (hX 70 rfl) n _).trans (E_laws_szColS ..)
theorem S_laws_szIntS {X : Ext} (hX : XOk X) (n : Nat) (a0 : List Int) (a1 : Int) : C_laws_szIntS (DD X (n + 1)) a0 a1 = F_laws_szIntS (DD X n) n a0 a1 := (DD_succ X Try.func71 (by kernel_rfl) (hX 71 rfl) n _).trans (E_laws_szIntS ..)
theorem S_laws_szIndexS {X : Ext} (hX : XOk X) (n : Nat) (a0 : List (ByteArray × List Int × Bool × Unit)) (a1 : Int) : C_laws_szIndexS (DD X (n + 1)) a0 a1 = F_laws_szIndexS (DD X n) n a0 a1 := (DD_succ X Try.func72 (by kernel_rfl) (hX 72 rfl) n _).trans (E_laws_szIndexS ..)
theorem S_spec_l1In {X : Ext} (hX : XOk X) (n : Nat) (a0 : Int) (a1 : Int) (a2 : Int) : C_spec_l1In (DD X (n + 1)) a0 a1 a2 = F_spec_l1In (DD X n) n a0 a1 a2 := (DD_succ X Try.func73 (by kernel_rfl) (hX 73 rfl) n _).trans (E_spec_l1In ..)
theorem S_spec_l19Places {X : Ext} (hX : XOk X) (n : Nat) (a0 : List (ByteArray × Int × Bool × Unit) × List Int × List (ByteArray × List Int × Bool × Unit) × Unit) (a1 : List Int) (a2 : Int) : C_spec_l19Places (DD X (n + 1)) a0 a1 a2 = F_spec_l19Places (DD X n) n a0 a1 a2 := (DD_succ X Try.func74 (by kernel_rfl) (hX 74 rfl) n _).trans (E_spec_l19Places ..)
theorem S_spec_l19Indexes {X : Ext} (hX : XOk X) (n : Nat) (a0 : List (ByteArray × Int × Bool × Unit) × List Int × List (ByteArray × List Int × Bool × Unit) × Unit) : C_spec_l19Indexes (DD X (n + 1)) a0 = F_spec_l19Indexes (DD X n) n a0 := (DD_succ X Try.func75 (by kernel_rfl) (hX 75 rfl) n _).trans (E_spec_l19Indexes ..)
theorem S_laws_toColS {X : Ext} (hX : XOk X) (n : Nat) (a0 : List (ByteArray × Int × Bool × Unit)) : C_laws_toColS (DD X (n + 1)) a0 = F_laws_toColS (DD X n) n a0 := (DD_succ X Try.func76 (by kernel_rfl) (hX 76 rfl) n _).trans (E_laws_toColS ..)
theorem S_laws_toIntS {X : Ext} (hX : XOk X) (n : Nat) (a0 : List Int) : C_laws_toIntS (DD X (n + 1)) a0 = F_laws_toIntS (DD X n) n a0 := (DD_succ X Try.func77 (by kernel_rfl) (hX 77 rfl) n _).trans (E_laws_toIntS ..)
theorem S_laws_toIndexS {X : Ext} (hX : XOk X) (n : Nat) (a0 : List (ByteArray × List Int × Bool × Unit)) : C_laws_toIndexS (DD X (n + 1)) a0 = F_laws_toIndexS (DD X n) n a0 := (DD_succ X Try.func78 (by kernel_rfl) (hX 78 rfl) n _).trans (E_laws_toIndexS ..)
theorem S_impl_from {X : Ext} (hX : XOk X) (n : Nat) (a0 : Int) (a1 : Int) (a2 : Int) : C_impl_from (DD X (n + 1)) a0 a1 a2 = F_impl_from (DD X n) n a0 a1 a2 := (DD_succ X Try.func79 (by kernel_rfl) (hX 79 rfl) n _).trans (E_impl_from ..)
theorem S_impl_placesOk {X : Ext} (hX : XOk X) (n : Nat) (a0 : List (ByteArray × Int × Bool × Unit) × List Int × List (ByteArray × List Int × Bool × Unit) × Unit) (a1 : List Int) (a2 : Int) : C_impl_placesOk (DD X (n + 1)) a0 a1 a2 = F_impl_placesOk (DD X n) n a0 a1 a2 := (DD_succ X Try.func80 (by kernel_rfl) (hX 80 rfl) n _).trans (E_impl_placesOk ..)
theorem S_slices_ContainsFunc_impl_Index_impl_Index {X : Ext} (hX : XOk X) (n : Nat) (a0 : List (ByteArray × List Int × Bool × Unit)) (a1 : Clo) : C_slices_ContainsFunc_impl_Index_impl_Index (DD X (n + 1)) a0 a1 = F_slices_ContainsFunc_impl_Index_impl_Index (DD X n) n a0 a1 := (DD_succ X Try.func81 (by kernel_rfl) (hX 81 rfl) n _).trans (E_slices_ContainsFunc_impl_Index_impl_Index ..)
theorem S_impl_SchemaOk_1 {X : Ext} (hX : XOk X) (n : Nat) (a0 : ByteArray × List Int × Bool × Unit) (a1 : ByteArray × List Int × Bool × Unit) : C_impl_SchemaOk_1 (DD X (n + 1)) a0 a1 = F_impl_SchemaOk_1 (DD X n) n a0 a1 := (DD_succ X Try.func82 (by kernel_rfl) (hX 82 rfl) n _).trans (E_impl_SchemaOk_1 ..)
theorem S_slices_ContainsFunc_int_int {X : Ext} (hX : XOk X) (n : Nat) (a0 : List Int) (a1 : Clo) : C_slices_ContainsFunc_int_int (DD X (n + 1)) a0 a1 = F_slices_ContainsFunc_int_int (DD X n) n a0 a1 := (DD_succ X Try.func83 (by kernel_rfl) (hX 83 rfl) n _).trans (E_slices_ContainsFunc_int_int ..)
theorem S_impl_SchemaOk_2 {X : Ext} (hX : XOk X) (n : Nat) (a0 : Int) (a1 : List (ByteArray × Int × Bool × Unit) × List Int × List (ByteArray × List Int × Bool × Unit) × Unit) : C_impl_SchemaOk_2 (DD X (n + 1)) a0 a1 = F_impl_SchemaOk_2 (DD X n) n a0 a1 := (DD_succ X Try.func84 (by kernel_rfl) (hX 84 rfl) n _).trans (E_impl_SchemaOk_2 ..)
theorem S_laws_eqColS {X : Ext} (hX : XOk X) (n : Nat) (a0 : List (ByteArray × Int × Bool × Unit)) (a1 : List (ByteArray × Int × Bool × Unit)) : C_laws_eqColS (DD X (n + 1)) a0 a1 = F_laws_eqColS (DD X n) n a0 a1 := (DD_succ X Try.func85 (by kernel_rfl) (hX 85 rfl) n _).trans (E_laws_eqColS ..)
theorem S_laws_eqIntS {X : Ext} (hX : XOk X) (n : Nat) (a0 : List Int) (a1 : List Int) : C_laws_eqIntS (DD X (n + 1)) a0 a1 = F_laws_eqIntS (DD X n) n a0 a1 := (DD_succ X Try.func86 (by kernel_rfl) (hX 86 rfl) n _).trans (E_laws_eqIntS ..)
theorem S_laws_eqIndexS {X : Ext} (hX : XOk X) (n : Nat) (a0 : List (ByteArray × List Int × Bool × Unit)) (a1 : List (ByteArray × List Int × Bool × Unit)) : C_laws_eqIndexS (DD X (n + 1)) a0 a1 = F_laws_eqIndexS (DD X n) n a0 a1 := (DD_succ X Try.func87 (by kernel_rfl) (hX 87 rfl) n _).trans (E_laws_eqIndexS ..)
theorem S_impl_ValueOk {X : Ext} (hX : XOk X) (n : Nat) (a0 : Int × Int × ByteArray × Unit) : C_impl_ValueOk (DD X (n + 1)) a0 = F_impl_ValueOk (DD X n) n a0 := (DD_succ X Try.func94 (by kernel_rfl) (hX 94 rfl) n _).trans (E_impl_ValueOk ..)
theorem S_spec_ValueOk {X : Ext} (hX : XOk X) (n : Nat) (a0 : Int × Int × ByteArray × Unit) : C_spec_ValueOk (DD X (n + 1)) a0 = F_spec_ValueOk (DD X n) n a0 := (DD_succ X Try.func95 (by kernel_rfl) (hX 95 rfl) n _).trans (E_spec_ValueOk ..)
theorem S_slices_IndexFunc_impl_Col_impl_Col {X : Ext} (hX : XOk X) (n : Nat) (a0 : List (ByteArray × Int × Bool × Unit)) (a1 : Clo) : C_slices_IndexFunc_impl_Col_impl_Col (DD X (n + 1)) a0 a1 = F_slices_IndexFunc_impl_Col_impl_Col (DD X n) n a0 a1 := (DD_succ X Try.func96 (by kernel_rfl) (hX 96 rfl) n _).trans (E_slices_IndexFunc_impl_Col_impl_Col ..)
theorem S_impl_ColAt_1 {X : Ext} (hX : XOk X) (n : Nat) (a0 : ByteArray × Int × Bool × Unit) (a1 : ByteArray) : C_impl_ColAt_1 (DD X (n + 1)) a0 a1 = F_impl_ColAt_1 (DD X n) n a0 a1 := (DD_succ X Try.func97 (by kernel_rfl) (hX 97 rfl) n _).trans (E_impl_ColAt_1 ..)
theorem S_spec_Project {X : Ext} (hX : XOk X) (n : Nat) (a0 : List (Int × Int × ByteArray × Unit)) (a1 : List Int) : C_spec_Project (DD X (n + 1)) a0 a1 = F_spec_Project (DD X n) n a0 a1 := (DD_succ X Try.func98 (by kernel_rfl) (hX 98 rfl) n _).trans (E_spec_Project ..)
theorem S_slices_ContainsFunc_impl_Value_impl_Value {X : Ext} (hX : XOk X) (n : Nat) (a0 : List (Int × Int × ByteArray × Unit)) (a1 : Clo) : C_slices_ContainsFunc_impl_Value_impl_Value (DD X (n + 1)) a0 a1 = F_slices_ContainsFunc_impl_Value_impl_Value (DD X n) n a0 a1 := (DD_succ X Try.func99 (by kernel_rfl) (hX 99 rfl) n _).trans (E_slices_ContainsFunc_impl_Value_impl_Value ..)
theorem S_laws_szValue {X : Ext} (hX : XOk X) (n : Nat) (a0 : Int × Int × ByteArray × Unit) (a1 : Int) : C_laws_szValue (DD X (n + 1)) a0 a1 = F_laws_szValue (DD X n) n a0 a1 := (DD_succ X Try.func101 (by kernel_rfl) (hX 101 rfl) n _).trans (E_laws_szValue ..)
theorem S_laws_toValue {X : Ext} (hX : XOk X) (n : Nat) (a0 : Int × Int × ByteArray × Unit) : C_laws_toValue (DD X (n + 1)) a0 = F_laws_toValue (DD X n) n a0 := (DD_succ X Try.func102 (by kernel_rfl) (hX 102 rfl) n _).trans (E_laws_toValue ..)
theorem S_laws_eqValue {X : Ext} (hX : XOk X) (n : Nat) (a0 : Int × Int × ByteArray × Unit) (a1 : Int × Int × ByteArray × Unit) : C_laws_eqValue (DD X (n + 1)) a0 a1 = F_laws_eqValue (DD X n) n a0 a1 := (DD_succ X Try.func103 (by kernel_rfl) (hX 103 rfl) n _).trans (E_laws_eqValue ..)
theorem S_laws_markColS {X : Ext} (hX : XOk X) (n : Nat) (a0 : List (ByteArray × Int × Bool × Unit)) (a1 : Int) : C_laws_markColS (DD X (n + 1)) a0 a1 = F_laws_markColS (DD X n) n a0 a1 := (DD_succ X Try.func104 (by kernel_rfl) (hX 104 rfl) n _).trans (E_laws_markColS ..)
theorem S_laws_markIntS {X : Ext} (hX : XOk X) (n : Nat) (a0 : List Int) (a1 : Int) : C_laws_markIntS (DD X (n + 1)) a0 a1 = F_laws_markIntS (DD X n) n a0 a1 := (DD_succ X Try.func105 (by kernel_rfl) (hX 105 rfl) n _).trans (E_laws_markIntS ..)
theorem S_laws_markIndexS {X : Ext} (hX : XOk X) (n : Nat) (a0 : List (ByteArray × List Int × Bool × Unit)) (a1 : Int) : C_laws_markIndexS (DD X (n + 1)) a0 a1 = F_laws_markIndexS (DD X n) n a0 a1 := (DD_succ X Try.func106 (by kernel_rfl) (hX 106 rfl) n _).trans (E_laws_markIndexS ..)
theorem S_laws_markText {X : Ext} (hX : XOk X) (n : Nat) (a0 : Int) : C_laws_markText (DD X (n + 1)) a0 = F_laws_markText (DD X n) n a0 := (DD_succ X Try.func107 (by kernel_rfl) (hX 107 rfl) n _).trans (E_laws_markText ..)
theorem S_slices_ContainsFunc_impl_Value_impl_Valuex {X : Ext} (hX : XOk X) (n : Nat) (a0 : List (List (Int × Int × ByteArray × Unit))) (a1 : Clo) : C_slices_ContainsFunc_impl_Value_impl_Valuex (DD X (n + 1)) a0 a1 = F_slices_ContainsFunc_impl_Value_impl_Valuex (DD X n) n a0 a1 := (DD_succ X Try.func116 (by kernel_rfl) (hX 116 rfl) n _).trans (E_slices_ContainsFunc_impl_Value_impl_Valuex ..)
theorem S_slices_IndexFunc_impl_Value_impl_Value {X : Ext} (hX : XOk X) (n : Nat) (a0 : List (List (Int × Int × ByteArray × Unit))) (a1 : Clo) : C_slices_IndexFunc_impl_Value_impl_Value (DD X (n + 1)) a0 a1 = F_slices_IndexFunc_impl_Value_impl_Value (DD X n) n a0 a1 := (DD_succ X Try.func130 (by kernel_rfl) (hX 130 rfl) n _).trans (E_slices_IndexFunc_impl_Value_impl_Value ..)
theorem S_laws_heldSchema {X : Ext} (hX : XOk X) (n : Nat) (a0 : List (ByteArray × Int × Bool × Unit) × List Int × List (ByteArray × List Int × Bool × Unit) × Unit) (a1 : Int) : C_laws_heldSchema (DD X (n + 1)) a0 a1 = F_laws_heldSchema (DD X n) n a0 a1 := (DD_succ X Try.func136 (by kernel_rfl) (hX 136 rfl) n _).trans (E_laws_heldSchema ..)
theorem S_laws_szCol {X : Ext} (hX : XOk X) (n : Nat) (a0 : ByteArray × Int × Bool × Unit) (a1 : Int) : C_laws_szCol (DD X (n + 1)) a0 a1 = F_laws_szCol (DD X n) n a0 a1 := (DD_succ X Try.func143 (by kernel_rfl) (hX 143 rfl) n _).trans (E_laws_szCol ..)
theorem S_laws_szIndex {X : Ext} (hX : XOk X) (n : Nat) (a0 : ByteArray × List Int × Bool × Unit) (a1 : Int) : C_laws_szIndex (DD X (n + 1)) a0 a1 = F_laws_szIndex (DD X n) n a0 a1 := (DD_succ X Try.func144 (by kernel_rfl) (hX 144 rfl) n _).trans (E_laws_szIndex ..)
theorem S_laws_toCol {X : Ext} (hX : XOk X) (n : Nat) (a0 : ByteArray × Int × Bool × Unit) : C_laws_toCol (DD X (n + 1)) a0 = F_laws_toCol (DD X n) n a0 := (DD_succ X Try.func145 (by kernel_rfl) (hX 145 rfl) n _).trans (E_laws_toCol ..)
theorem S_laws_toIndex {X : Ext} (hX : XOk X) (n : Nat) (a0 : ByteArray × List Int × Bool × Unit) : C_laws_toIndex (DD X (n + 1)) a0 = F_laws_toIndex (DD X n) n a0 := (DD_succ X Try.func146 (by kernel_rfl) (hX 146 rfl) n _).trans (E_laws_toIndex ..)
theorem S_slices_Contains_int_int {X : Ext} (hX : XOk X) (n : Nat) (a0 : List Int) (a1 : Int) : C_slices_Contains_int_int (DD X (n + 1)) a0 a1 = F_slices_Contains_int_int (DD X n) n a0 a1 := (DD_succ X Try.func147 (by kernel_rfl) (hX 147 rfl) n _).trans (E_slices_Contains_int_int ..)
theorem S_slices_IndexFunc_impl_Index_impl_Index {X : Ext} (hX : XOk X) (n : Nat) (a0 : List (ByteArray × List Int × Bool × Unit)) (a1 : Clo) : C_slices_IndexFunc_impl_Index_impl_Index (DD X (n + 1)) a0 a1 = F_slices_IndexFunc_impl_Index_impl_Index (DD X n) n a0 a1 := (DD_succ X Try.func148 (by kernel_rfl) (hX 148 rfl) n _).trans (E_slices_IndexFunc_impl_Index_impl_Index ..)
theorem S_slices_IndexFunc_int_int {X : Ext} (hX : XOk X) (n : Nat) (a0 : List Int) (a1 : Clo) : C_slices_IndexFunc_int_int (DD X (n + 1)) a0 a1 = F_slices_IndexFunc_int_int (DD X n) n a0 a1 := (DD_succ X Try.func149 (by kernel_rfl) (hX 149 rfl) n _).trans (E_slices_IndexFunc_int_int ..)
theorem S_laws_eqCol {X : Ext} (hX : XOk X) (n : Nat) (a0 : ByteArray × Int × Bool × Unit) (a1 : ByteArray × Int × Bool × Unit) : C_laws_eqCol (DD X (n + 1)) a0 a1 = F_laws_eqCol (DD X n) n a0 a1 := (DD_succ X Try.func150 (by kernel_rfl) (hX 150 rfl) n _).trans (E_laws_eqCol ..)
theorem S_laws_eqIndex {X : Ext} (hX : XOk X) (n : Nat) (a0 : ByteArray × List Int × Bool × Unit) (a1 : ByteArray × List Int × Bool × Unit) : C_laws_eqIndex (DD X (n + 1)) a0 a1 = F_laws_eqIndex (DD X n) n a0 a1 := (DD_succ X Try.func151 (by kernel_rfl) (hX 151 rfl) n _).trans (E_laws_eqIndex ..)
theorem S_slices_IndexFunc_impl_Value_impl_Valuex {X : Ext} (hX : XOk X) (n : Nat) (a0 : List (Int × Int × ByteArray × Unit)) (a1 : Clo) : C_slices_IndexFunc_impl_Value_impl_Valuex (DD X (n + 1)) a0 a1 = F_slices_IndexFunc_impl_Value_impl_Valuex (DD X n) n a0 a1 := (DD_succ X Try.func158 (by kernel_rfl) (hX 158 rfl) n _).trans (E_slices_IndexFunc_impl_Value_impl_Valuex ..)
theorem S_laws_heldColS {X : Ext} (hX : XOk X) (n : Nat) (a0 : List (ByteArray × Int × Bool × Unit)) (a1 : Int) : C_laws_heldColS (DD X (n + 1)) a0 a1 = F_laws_heldColS (DD X n) n a0 a1 := (DD_succ X Try.func178 (by kernel_rfl) (hX 178 rfl) n _).trans (E_laws_heldColS ..)
theorem S_laws_heldIntS {X : Ext} (hX : XOk X) (n : Nat) (a0 : List Int) (a1 : Int) : C_laws_heldIntS (DD X (n + 1)) a0 a1 = F_laws_heldIntS (DD X n) n a0 a1 := (DD_succ X Try.func179 (by kernel_rfl) (hX 179 rfl) n _).trans (E_laws_heldIntS ..)
theorem S_laws_heldIndexS {X : Ext} (hX : XOk X) (n : Nat) (a0 : List (ByteArray × List Int × Bool × Unit)) (a1 : Int) : C_laws_heldIndexS (DD X (n + 1)) a0 a1 = F_laws_heldIndexS (DD X n) n a0 a1 := (DD_succ X Try.func180 (by kernel_rfl) (hX 180 rfl) n _).trans (E_laws_heldIndexS ..)
theorem S_slices_Index_int_int {X : Ext} (hX : XOk X) (n : Nat) (a0 : List Int) (a1 : Int) : C_slices_Index_int_int (DD X (n + 1)) a0 a1 = F_slices_Index_int_int (DD X n) n a0 a1 := (DD_succ X Try.func186 (by kernel_rfl) (hX 186 rfl) n _).trans (E_slices_Index_int_int ..)
end Go.G


import Derived.Test.YtjjcilkcffigeaaAV3
/- G: calls, in short. No condition. Printed by a program of this session. -/
namespace Go.G
open Go Go.V
noncomputable def C_laws_FnExactWayDel (D : Den ctx) (a0 : List (ByteArray × ByteArray × Unit)) (a1 : ByteArray × ByteArray × Unit) : Option ((Bool × Unit) × Unit) := D 6 (a0, (a1, ()))
noncomputable def C_laws_szWay (D : Den ctx) (a0 : ByteArray × ByteArray × Unit) (a1 : Int) : Option ((Int × Unit) × Unit) := D 16 (a0, (a1, ()))
noncomputable def C_laws_toWay (D : Den ctx) (a0 : ByteArray × ByteArray × Unit) : Option (((ByteArray × ByteArray × Unit) × Unit) × Unit) := D 18 (a0, ())
noncomputable def C_laws_szWayS (D : Den ctx) (a0 : List (ByteArray × ByteArray × Unit)) (a1 : Int) : Option ((Int × Unit) × Unit) := D 27 (a0, (a1, ()))
noncomputable def C_spec_WayDel (D : Den ctx) (a0 : List (ByteArray × ByteArray × Unit)) (a1 : ByteArray × ByteArray × Unit) : Option ((List (ByteArray × ByteArray × Unit) × Unit) × Unit) := D 28 (a0, (a1, ()))
noncomputable def C_laws_toWayS (D : Den ctx) (a0 : List (ByteArray × ByteArray × Unit)) : Option ((List (ByteArray × ByteArray × Unit) × Unit) × Unit) := D 29 (a0, ())
noncomputable def C_impl_WayDel (D : Den ctx) (a0 : List (ByteArray × ByteArray × Unit)) (a1 : ByteArray × ByteArray × Unit) : Option ((List (ByteArray × ByteArray × Unit) × Unit) × Unit) := D 30 (a0, (a1, ()))
noncomputable def C_laws_eqWayS (D : Den ctx) (a0 : List (ByteArray × ByteArray × Unit)) (a1 : List (ByteArray × ByteArray × Unit)) : Option ((Bool × Unit) × Unit) := D 31 (a0, (a1, ()))
noncomputable def C_laws_markWayS (D : Den ctx) (a0 : List (ByteArray × ByteArray × Unit)) (a1 : Int) : Option ((Int × Unit) × List (ByteArray × ByteArray × Unit) × Unit) := D 32 (a0, (a1, ()))
noncomputable def C_laws_heldWayS (D : Den ctx) (a0 : List (ByteArray × ByteArray × Unit)) (a1 : Int) : Option ((Int × Unit) × Unit) := D 33 (a0, (a1, ()))
noncomputable def C_laws_eqIntS (D : Den ctx) (a0 : List Int) (a1 : List Int) : Option ((Bool × Unit) × Unit) := D 60 (a0, (a1, ()))
noncomputable def C_laws_markIntS (D : Den ctx) (a0 : List Int) (a1 : Int) : Option ((Int × Unit) × List Int × Unit) := D 62 (a0, (a1, ()))
noncomputable def C_laws_heldIntS (D : Den ctx) (a0 : List Int) (a1 : Int) : Option ((Int × Unit) × Unit) := D 64 (a0, (a1, ()))
noncomputable def C_slices_DeleteFunc_impl_Way_impl_Way (D : Den ctx) (a0 : List (ByteArray × ByteArray × Unit)) (a1 : Clo) : Option ((List (ByteArray × ByteArray × Unit) × Unit) × Unit) := D 66 (a0, (a1, ()))
noncomputable def C_slices_Clone_impl_Way_impl_Way (D : Den ctx) (a0 : List (ByteArray × ByteArray × Unit)) : Option ((List (ByteArray × ByteArray × Unit) × Unit) × Unit) := D 67 (a0, ())
noncomputable def C_impl_WayDel_1 (D : Den ctx) (a0 : ByteArray × ByteArray × Unit) (a1 : ByteArray × ByteArray × Unit) : Option ((Bool × Unit) × Unit) := D 68 (a0, (a1, ()))
noncomputable def C_laws_eqWay (D : Den ctx) (a0 : ByteArray × ByteArray × Unit) (a1 : ByteArray × ByteArray × Unit) : Option ((Bool × Unit) × Unit) := D 69 (a0, (a1, ()))
noncomputable def C_laws_markText (D : Den ctx) (a0 : Int) : Option ((ByteArray × Unit) × Unit) := D 70 (a0, ())
noncomputable def C_laws_szIntS (D : Den ctx) (a0 : List Int) (a1 : Int) : Option ((Int × Unit) × Unit) := D 77 (a0, (a1, ()))
noncomputable def C_laws_toIntS (D : Den ctx) (a0 : List Int) : Option ((List Int × Unit) × Unit) := D 81 (a0, ())
noncomputable def C_slices_IndexFunc_impl_Way_impl_Way (D : Den ctx) (a0 : List (ByteArray × ByteArray × Unit)) (a1 : Clo) : Option ((Int × Unit) × Unit) := D 84 (a0, (a1, ()))

end Go.G

/- G: functions of the program as told by V. No condition. Printed by a program of this session. -/
namespace Go.G
set_option linter.unusedVariables false
set_option maxRecDepth 100000
set_option maxHeartbeats 0
open Go Go.V
/- laws_FnExactWayDel -/
noncomputable def laws_FnExactWayDel_e (D : Den ctx) (n : Nat) (a0 : List (ByteArray × ByteArray × Unit)) (a1 : ByteArray × ByteArray × Unit) : Option ((Bool × Unit) × Unit) :=
  bindD (C_laws_szWayS D a0 1048576) fun b ↦
    br (decide (Prod.fst (Prod.fst b) < 0)) (some ((true, ()), ()))
      (bindD (C_laws_szWay D a1 (Prod.fst (Prod.fst b))) fun b ↦
        br (decide (Prod.fst (Prod.fst b) < 0)) (some ((true, ()), ()))
          (bindD (C_laws_toWayS D a0) fun b ↦
            bindD (C_laws_toWay D a1) fun b_1 ↦
              bindD (C_spec_WayDel D (Prod.fst (Prod.fst b)) (Prod.fst (Prod.fst b_1))) fun b ↦
                bindD (C_laws_toWayS D a0) fun b_2 ↦
                  bindD (C_laws_toWay D a1) fun b_3 ↦
                    bindD (C_impl_WayDel D (Prod.fst (Prod.fst b_2)) (Prod.fst (Prod.fst b_3))) fun b_4 ↦
                      bindD (C_laws_eqWayS D (Prod.fst (Prod.fst b_4)) (Prod.fst (Prod.fst b))) fun b_5 ↦
                        br (!Prod.fst (Prod.fst b_5)) (some ((false, ()), ()))
                          (bindD (C_laws_toWayS D a0) fun b_6 ↦
                            bindD (C_laws_eqWayS D (Prod.fst (Prod.fst b_2)) (Prod.fst (Prod.fst b_6))) fun b_7 ↦
                              br (!Prod.fst (Prod.fst b_7)) (some ((false, ()), ()))
                                (bindD (C_laws_markWayS D (Prod.fst (Prod.fst b_2)) 1) fun b_8 ↦
                                  br (decide (Prod.fst (Prod.fst b_8) < 0)) (some ((false, ()), ()))
                                    (bindD (C_laws_eqWayS D (Prod.fst (Prod.fst b_4)) (Prod.fst (Prod.fst b))) fun b_9 ↦
                                      br (!Prod.fst (Prod.fst b_9)) (some ((false, ()), ()))
                                        (bindD (C_laws_markWayS D (Prod.fst (Prod.fst b_4)) 1) fun b_10 ↦
                                          bindD (C_laws_heldWayS D (Prod.fst (Prod.snd b_10)) 1) fun b_11 ↦
                                            br (decide (Prod.fst (Prod.fst b_11) < 0)) (some ((false, ()), ()))
                                              (br (Prod.fst (Prod.fst b_11) != Prod.fst (Prod.fst b_10)) (some ((false, ()), ()))
                                                (bindD (C_laws_toWayS D a0) fun b_12 ↦
                                                  bindD (C_laws_toWay D a1) fun b_13 ↦
                                                    bindD (C_impl_WayDel D (Prod.fst (Prod.fst b_12)) (Prod.fst (Prod.fst b_13))) fun b_14 ↦
                                                      bindD (C_laws_eqWayS D (Prod.fst (Prod.fst b_14)) (Prod.fst (Prod.fst b))) fun b ↦
                                                        br (!Prod.fst (Prod.fst b)) (some ((false, ()), ()))
                                                          (bindD (C_laws_heldWayS D (Prod.fst (Prod.snd b_10)) 1) fun b ↦
                                                            br (decide (Prod.fst (Prod.fst b) < 0)) (some ((false, ()), ()))
                                                              (br (Prod.fst (Prod.fst b) != Prod.fst (Prod.fst b_10)) (some ((false, ()), ()))
                                                                (some ((true, ()), ()))))))))))))
noncomputable def F_laws_FnExactWayDel (D : Den ctx) (n : Nat) (a0 : List (ByteArray × ByteArray × Unit)) (a1 : ByteArray × ByteArray × Unit) : Option ((Bool × Unit) × Unit) := laws_FnExactWayDel_e D n a0 a1
theorem E_laws_FnExactWayDel (D : Den ctx) (n : Nat) (a0 : List (ByteArray × ByteArray × Unit)) (a1 : ByteArray × ByteArray × Unit) : rfC funcTab D n 6 (a0, (a1, ())) = F_laws_FnExactWayDel D n a0 a1 := by kernel_rfl

end Go.G

/- G: functions of the program as told by V. No condition. Printed by a program of this session. -/
namespace Go.G
set_option linter.unusedVariables false
set_option maxRecDepth 100000
set_option maxHeartbeats 0
open Go Go.V
/- laws_szWay -/
noncomputable def laws_szWay_e (D : Den ctx) (n : Nat) (a0 : ByteArray × ByteArray × Unit) (a1 : Int) : Option ((Int × Unit) × Unit) :=
  br (decide (IntKind.wrap IntKind.i64 (a1 - (↑(ByteArray.size (Prod.fst a0)) : Int)) < 0)) (some ((-1, ()), ()))
    (br
      (decide
        (IntKind.wrap IntKind.i64
            (IntKind.wrap IntKind.i64 (a1 - (↑(ByteArray.size (Prod.fst a0)) : Int)) - (↑(ByteArray.size (Prod.fst (Prod.snd a0))) : Int)) <
          0))
      (some ((-1, ()), ()))
      (some
        ((IntKind.wrap IntKind.i64
              (IntKind.wrap IntKind.i64 (a1 - (↑(ByteArray.size (Prod.fst a0)) : Int)) - (↑(ByteArray.size (Prod.fst (Prod.snd a0))) : Int)),
            ()),
          ())))
noncomputable def F_laws_szWay (D : Den ctx) (n : Nat) (a0 : ByteArray × ByteArray × Unit) (a1 : Int) : Option ((Int × Unit) × Unit) := laws_szWay_e D n a0 a1
theorem E_laws_szWay (D : Den ctx) (n : Nat) (a0 : ByteArray × ByteArray × Unit) (a1 : Int) : rfC funcTab D n 16 (a0, (a1, ())) = F_laws_szWay D n a0 a1 := by kernel_rfl

end Go.G

/- G: functions of the program as told by V. No condition. Printed by a program of this session. -/
namespace Go.G
set_option linter.unusedVariables false
set_option maxRecDepth 100000
set_option maxHeartbeats 0
open Go Go.V
/- laws_toWay -/
noncomputable def laws_toWay_e (D : Den ctx) (n : Nat) (a0 : ByteArray × ByteArray × Unit) : Option (((ByteArray × ByteArray × Unit) × Unit) × Unit) :=
  some (((Prod.fst a0, Prod.fst (Prod.snd a0), ()), ()), ())
noncomputable def F_laws_toWay (D : Den ctx) (n : Nat) (a0 : ByteArray × ByteArray × Unit) : Option (((ByteArray × ByteArray × Unit) × Unit) × Unit) := laws_toWay_e D n a0
theorem E_laws_toWay (D : Den ctx) (n : Nat) (a0 : ByteArray × ByteArray × Unit) : rfC funcTab D n 18 (a0, ()) = F_laws_toWay D n a0 := by kernel_rfl

end Go.G

/- G: functions of the program as told by V. No condition. Printed by a program of this session. -/
namespace Go.G
set_option linter.unusedVariables false
set_option maxRecDepth 100000
set_option maxHeartbeats 0
open Go Go.V
/- laws_szWayS -/
noncomputable def laws_szWayS_b0 (D : Den ctx) (n : Nat) (go : List (ByteArray × ByteArray × Unit) → Int → Int → Option ((Int × Unit) × Unit)) (K0 : Int → Int → Option ((Int × Unit) × Unit)) (K1 : Int → Option ((Int × Unit) × Unit)) (x0 : List (ByteArray × ByteArray × Unit)) (x1 : Int) (x2 : Int) : Option ((Int × Unit) × Unit) :=
  br (decide (x2 < (↑(List.length x0) : Int)))
    (br (decide (0 ≤ x2) && decide (x2 < (↑(List.length x0) : Int)))
      (bindD (C_laws_szWay D (List.getD x0 (Int.toNat x2) (ByteArray.empty, ByteArray.empty, ())) x1) fun b ↦
        br (decide (Prod.fst (Prod.fst b) < 0)) (K0 (Prod.fst (Prod.fst b)) (-1)) (go x0 (Prod.fst (Prod.fst b)) (IntKind.wrap IntKind.i64 (x2 + 1))))
      none)
    (K1 x1)
noncomputable def laws_szWayS_L0 (D : Den ctx) (n : Nat) (K0 : Int → Int → Option ((Int × Unit) × Unit)) (K1 : Int → Option ((Int × Unit) × Unit)) : Nat → (List (ByteArray × ByteArray × Unit)) → (Int) → (Int) → Option ((Int × Unit) × Unit)
  | 0 => (fun x0 x1 x2 => none)
  | m + 1 => (fun x0 x1 x2 => laws_szWayS_b0 D n (laws_szWayS_L0 D n K0 K1 m) K0 K1 x0 x1 x2)
noncomputable def laws_szWayS_x0_0 (D : Den ctx) (n : Nat) (v0_0 : Int) (v0_1 : Int) : Option ((Int × Unit) × Unit) :=
  some ((v0_1, ()), ())
noncomputable def laws_szWayS_x0_1 (D : Den ctx) (n : Nat) (v1_0 : Int) : Option ((Int × Unit) × Unit) :=
  some ((v1_0, ()), ())
noncomputable def laws_szWayS_LP0 (D : Den ctx) (n : Nat) : (List (ByteArray × ByteArray × Unit)) → (Int) → (Int) → Option ((Int × Unit) × Unit) :=
  (fun x0 x1 x2 => laws_szWayS_L0 D n (fun v0_0 v0_1 => laws_szWayS_x0_0 D n v0_0 v0_1) (fun v1_0 => laws_szWayS_x0_1 D n v1_0) n x0 x1 x2)
noncomputable def laws_szWayS_e (D : Den ctx) (n : Nat) (lp0 : List (ByteArray × ByteArray × Unit) → Int → Int → Option ((Int × Unit) × Unit)) (a0 : List (ByteArray × ByteArray × Unit)) (a1 : Int) : Option ((Int × Unit) × Unit) :=
  br (decide (IntKind.wrap IntKind.i64 (a1 - (↑(List.length a0) : Int)) < 0)) (some ((-1, ()), ()))
    (lp0 a0 (IntKind.wrap IntKind.i64 (a1 - (↑(List.length a0) : Int))) 0)
noncomputable def F_laws_szWayS (D : Den ctx) (n : Nat) (a0 : List (ByteArray × ByteArray × Unit)) (a1 : Int) : Option ((Int × Unit) × Unit) := laws_szWayS_e D n (laws_szWayS_LP0 D n) a0 a1
def laws_szWayS_Q0 (x0 : List (ByteArray × ByteArray × Unit)) (x1 : Int) (x2 : Int) : St :=
  stq 27 [(0, AV.val (Ty.sl (Ty.pair Ty.str (Ty.pair Ty.str Ty.unit))) x0), (1, AV.val (Ty.int IntKind.i64) x1), (5, AV.val (Ty.int IntKind.i64) x2)] []
def laws_szWayS_Q0_0 (v0_0 : Int) (v0_1 : Int) : St :=
  stq 27 [(1, AV.val (Ty.int IntKind.i64) v0_0), (4, AV.val (Ty.int IntKind.i64) v0_1)] []
def laws_szWayS_Q0_1 (v1_0 : Int) : St :=
  stq 27 [(1, AV.val (Ty.int IntKind.i64) v1_0)] []
theorem laws_szWayS_SB0 (D : Den ctx) (n : Nat) (m : Nat) (K : Ex → St → Option (Out ctx 27)) (x0 : List (ByteArray × ByteArray × Unit)) (x1 : Int) (x2 : Int) :
  LQ funcTab D n 27 [.r, .r, .r, .l, .r, .l] (m + 1) (laws_szWayS_Q0 x0 x1 x2) K = laws_szWayS_b0 D n (fun x0 x1 x2 => LQ funcTab D n 27 [.r, .r, .r, .l, .r, .l] m (laws_szWayS_Q0 x0 x1 x2) K) (fun v0_0 v0_1 => K (Ex.ret) (laws_szWayS_Q0_0 v0_0 v0_1)) (fun v1_0 => K (Ex.exit 0) (laws_szWayS_Q0_1 v1_0)) x0 x1 x2 := by kernel_rfl
theorem laws_szWayS_EL0 (D : Den ctx) (n : Nat) (K : Ex → St → Option (Out ctx 27)) : ∀ (m : Nat) (x0 : List (ByteArray × ByteArray × Unit)) (x1 : Int) (x2 : Int), LQ funcTab D n 27 [.r, .r, .r, .l, .r, .l] m (laws_szWayS_Q0 x0 x1 x2) K = laws_szWayS_L0 D n (fun v0_0 v0_1 => K (Ex.ret) (laws_szWayS_Q0_0 v0_0 v0_1)) (fun v1_0 => K (Ex.exit 0) (laws_szWayS_Q0_1 v1_0)) m x0 x1 x2
  | 0, x0, x1, x2 => LQ_zero ..
  | m + 1, x0, x1, x2 => by
    have ih : (fun x0 x1 x2 => LQ funcTab D n 27 [.r, .r, .r, .l, .r, .l] m (laws_szWayS_Q0 x0 x1 x2) K) = laws_szWayS_L0 D n (fun v0_0 v0_1 => K (Ex.ret) (laws_szWayS_Q0_0 v0_0 v0_1)) (fun v1_0 => K (Ex.exit 0) (laws_szWayS_Q0_1 v1_0)) m := by funext x0 x1 x2; exact laws_szWayS_EL0 D n K m x0 x1 x2
    rw [laws_szWayS_SB0]
    rw [ih]; rfl
theorem laws_szWayS_X0_0 (D : Den ctx) (n : Nat) (v0_0 : Int) (v0_1 : Int) :
  (CQ funcTab D n 27 [] [.r, .r, .r, .l, .r, .l] (lastK funcTab 27)) (Ex.ret) (laws_szWayS_Q0_0 v0_0 v0_1) = laws_szWayS_x0_0 D n v0_0 v0_1 := by kernel_rfl
theorem laws_szWayS_X0_1 (D : Den ctx) (n : Nat) (v1_0 : Int) :
  (CQ funcTab D n 27 [] [.r, .r, .r, .l, .r, .l] (lastK funcTab 27)) (Ex.exit 0) (laws_szWayS_Q0_1 v1_0) = laws_szWayS_x0_1 D n v1_0 := by kernel_rfl
theorem laws_szWayS_ELP0 (D : Den ctx) (n : Nat) (x0 : List (ByteArray × ByteArray × Unit)) (x1 : Int) (x2 : Int) :
  LQ funcTab D n 27 [.r, .r, .r, .l, .r, .l] n (laws_szWayS_Q0 x0 x1 x2) (CQ funcTab D n 27 [] [.r, .r, .r, .l, .r, .l] (lastK funcTab 27)) = laws_szWayS_LP0 D n x0 x1 x2 := by
  rw [laws_szWayS_EL0]
  simp only [laws_szWayS_X0_0, laws_szWayS_X0_1]
  rfl
theorem E_laws_szWayS (D : Den ctx) (n : Nat) (a0 : List (ByteArray × ByteArray × Unit)) (a1 : Int) : rfC funcTab D n 27 (a0, (a1, ())) = F_laws_szWayS D n a0 a1 := by
  have h : rfC funcTab D n 27 (a0, (a1, ())) = laws_szWayS_e D n (fun x0 x1 x2 => LQ funcTab D n 27 [.r, .r, .r, .l, .r, .l] n (laws_szWayS_Q0 x0 x1 x2) (CQ funcTab D n 27 [] [.r, .r, .r, .l, .r, .l] (lastK funcTab 27))) a0 a1 := by kernel_rfl
  rw [h]
  simp only [laws_szWayS_ELP0]
  rfl

end Go.G

/- G: functions of the program as told by V. No condition. Printed by a program of this session. -/
namespace Go.G
set_option linter.unusedVariables false
set_option maxRecDepth 100000
set_option maxHeartbeats 0
open Go Go.V
/- spec_WayDel -/
noncomputable def spec_WayDel_b0 (D : Den ctx) (n : Nat) (go : List (ByteArray × ByteArray × Unit) →
  Int → ByteArray × ByteArray × Unit → List (ByteArray × ByteArray × Unit) → Option ((List (ByteArray × ByteArray × Unit) × Unit) × Unit)) (K0 : List (ByteArray × ByteArray × Unit) → Option ((List (ByteArray × ByteArray × Unit) × Unit) × Unit)) (x0 : List (ByteArray × ByteArray × Unit)) (x1 : Int) (x2 : ByteArray × ByteArray × Unit) (x3 : List (ByteArray × ByteArray × Unit)) : Option ((List (ByteArray × ByteArray × Unit) × Unit) × Unit) :=
  br (decide (x1 < (↑(List.length x0) : Int)))
    (br (decide (0 ≤ x1) && decide (x1 < (↑(List.length x0) : Int)))
      (br (!eqDen (Ty.pair Ty.str (Ty.pair Ty.str Ty.unit)) (List.getD x0 (Int.toNat x1) (ByteArray.empty, ByteArray.empty, ())) x2)
        (br (decide (0 ≤ x1) && decide (x1 < (↑(List.length x0) : Int)))
          (br (decide (List.length x3 + 1 ≤ bound))
            (go x0 (IntKind.wrap IntKind.i64 (x1 + 1)) x2 (x3 ++ [List.getD x0 (Int.toNat x1) (ByteArray.empty, ByteArray.empty, ())])) none)
          none)
        (go x0 (IntKind.wrap IntKind.i64 (x1 + 1)) x2 x3))
      none)
    (K0 x3)
noncomputable def spec_WayDel_L0 (D : Den ctx) (n : Nat) (K0 : List (ByteArray × ByteArray × Unit) → Option ((List (ByteArray × ByteArray × Unit) × Unit) × Unit)) : Nat → (List (ByteArray × ByteArray × Unit)) → (Int) → (ByteArray × ByteArray × Unit) → (List (ByteArray × ByteArray × Unit)) → Option ((List (ByteArray × ByteArray × Unit) × Unit) × Unit)
  | 0 => (fun x0 x1 x2 x3 => none)
  | m + 1 => (fun x0 x1 x2 x3 => spec_WayDel_b0 D n (spec_WayDel_L0 D n K0 m) K0 x0 x1 x2 x3)
noncomputable def spec_WayDel_x0_0 (D : Den ctx) (n : Nat) (v0_0 : List (ByteArray × ByteArray × Unit)) : Option ((List (ByteArray × ByteArray × Unit) × Unit) × Unit) :=
  some ((v0_0, ()), ())
noncomputable def spec_WayDel_LP0 (D : Den ctx) (n : Nat) : (List (ByteArray × ByteArray × Unit)) → (Int) → (ByteArray × ByteArray × Unit) → (List (ByteArray × ByteArray × Unit)) → Option ((List (ByteArray × ByteArray × Unit) × Unit) × Unit) :=
  (fun x0 x1 x2 x3 => spec_WayDel_L0 D n (fun v0_0 => spec_WayDel_x0_0 D n v0_0) n x0 x1 x2 x3)
noncomputable def spec_WayDel_e (D : Den ctx) (n : Nat) (lp0 : List (ByteArray × ByteArray × Unit) →
  Int → ByteArray × ByteArray × Unit → List (ByteArray × ByteArray × Unit) → Option ((List (ByteArray × ByteArray × Unit) × Unit) × Unit)) (a0 : List (ByteArray × ByteArray × Unit)) (a1 : ByteArray × ByteArray × Unit) : Option ((List (ByteArray × ByteArray × Unit) × Unit) × Unit) :=
  lp0 a0 0 a1 []
noncomputable def F_spec_WayDel (D : Den ctx) (n : Nat) (a0 : List (ByteArray × ByteArray × Unit)) (a1 : ByteArray × ByteArray × Unit) : Option ((List (ByteArray × ByteArray × Unit) × Unit) × Unit) := spec_WayDel_e D n (spec_WayDel_LP0 D n) a0 a1
def spec_WayDel_Q0 (x0 : List (ByteArray × ByteArray × Unit)) (x1 : Int) (x2 : ByteArray × ByteArray × Unit) (x3 : List (ByteArray × ByteArray × Unit)) : St :=
  stq 28 [(0, AV.val (Ty.sl (Ty.pair Ty.str (Ty.pair Ty.str Ty.unit))) x0), (3, AV.addr 3 []), (5, AV.brw 5 [] 0), (6, AV.val (Ty.int IntKind.i64) x1)] [(3, Root.mk (Ty.pair Ty.str (Ty.pair Ty.str Ty.unit)) Mk.no x2 true), (5, Root.mk (Ty.sl (Ty.pair Ty.str (Ty.pair Ty.str Ty.unit))) (Mk.own 0 (Mk.pr Mk.no (Mk.pr Mk.no Mk.no))) x3 false)]
def spec_WayDel_Q0_0 (v0_0 : List (ByteArray × ByteArray × Unit)) : St :=
  stq 28 [(5, AV.brw 5 [] 0)] [(5, Root.mk (Ty.sl (Ty.pair Ty.str (Ty.pair Ty.str Ty.unit))) (Mk.own 0 (Mk.pr Mk.no (Mk.pr Mk.no Mk.no))) v0_0 false)]
theorem spec_WayDel_SB0 (D : Den ctx) (n : Nat) (m : Nat) (K : Ex → St → Option (Out ctx 28)) (x0 : List (ByteArray × ByteArray × Unit)) (x1 : Int) (x2 : ByteArray × ByteArray × Unit) (x3 : List (ByteArray × ByteArray × Unit)) :
  LQ funcTab D n 28 [.r, .r, .l, .r, .l] (m + 1) (spec_WayDel_Q0 x0 x1 x2 x3) K = spec_WayDel_b0 D n (fun x0 x1 x2 x3 => LQ funcTab D n 28 [.r, .r, .l, .r, .l] m (spec_WayDel_Q0 x0 x1 x2 x3) K) (fun v0_0 => K (Ex.exit 0) (spec_WayDel_Q0_0 v0_0)) x0 x1 x2 x3 := by kernel_rfl
theorem spec_WayDel_EL0 (D : Den ctx) (n : Nat) (K : Ex → St → Option (Out ctx 28)) : ∀ (m : Nat) (x0 : List (ByteArray × ByteArray × Unit)) (x1 : Int) (x2 : ByteArray × ByteArray × Unit) (x3 : List (ByteArray × ByteArray × Unit)), LQ funcTab D n 28 [.r, .r, .l, .r, .l] m (spec_WayDel_Q0 x0 x1 x2 x3) K = spec_WayDel_L0 D n (fun v0_0 => K (Ex.exit 0) (spec_WayDel_Q0_0 v0_0)) m x0 x1 x2 x3
  | 0, x0, x1, x2, x3 => LQ_zero ..
  | m + 1, x0, x1, x2, x3 => by
    have ih : (fun x0 x1 x2 x3 => LQ funcTab D n 28 [.r, .r, .l, .r, .l] m (spec_WayDel_Q0 x0 x1 x2 x3) K) = spec_WayDel_L0 D n (fun v0_0 => K (Ex.exit 0) (spec_WayDel_Q0_0 v0_0)) m := by funext x0 x1 x2 x3; exact spec_WayDel_EL0 D n K m x0 x1 x2 x3
    rw [spec_WayDel_SB0]
    rw [ih]; rfl
theorem spec_WayDel_X0_0 (D : Den ctx) (n : Nat) (v0_0 : List (ByteArray × ByteArray × Unit)) :
  (CQ funcTab D n 28 [] [.r, .r, .l, .r, .l] (lastK funcTab 28)) (Ex.exit 0) (spec_WayDel_Q0_0 v0_0) = spec_WayDel_x0_0 D n v0_0 := by kernel_rfl
theorem spec_WayDel_ELP0 (D : Den ctx) (n : Nat) (x0 : List (ByteArray × ByteArray × Unit)) (x1 : Int) (x2 : ByteArray × ByteArray × Unit) (x3 : List (ByteArray × ByteArray × Unit)) :
  LQ funcTab D n 28 [.r, .r, .l, .r, .l] n (spec_WayDel_Q0 x0 x1 x2 x3) (CQ funcTab D n 28 [] [.r, .r, .l, .r, .l] (lastK funcTab 28)) = spec_WayDel_LP0 D n x0 x1 x2 x3 := by
  rw [spec_WayDel_EL0]
  simp only [spec_WayDel_X0_0]
  rfl
theorem E_spec_WayDel (D : Den ctx) (n : Nat) (a0 : List (ByteArray × ByteArray × Unit)) (a1 : ByteArray × ByteArray × Unit) : rfC funcTab D n 28 (a0, (a1, ())) = F_spec_WayDel D n a0 a1 := by
  have h : rfC funcTab D n 28 (a0, (a1, ())) = spec_WayDel_e D n (fun x0 x1 x2 x3 => LQ funcTab D n 28 [.r, .r, .l, .r, .l] n (spec_WayDel_Q0 x0 x1 x2 x3) (CQ funcTab D n 28 [] [.r, .r, .l, .r, .l] (lastK funcTab 28))) a0 a1 := by kernel_rfl
  rw [h]
  simp only [spec_WayDel_ELP0]
  rfl

end Go.G

/- G: functions of the program as told by V. No condition. Printed by a program of this session. -/
namespace Go.G
set_option linter.unusedVariables false
set_option maxRecDepth 100000
set_option maxHeartbeats 0
open Go Go.V
/- laws_toWayS -/
noncomputable def laws_toWayS_b0 (D : Den ctx) (n : Nat) (go : List (ByteArray × ByteArray × Unit) → Int → List (ByteArray × ByteArray × Unit) → Option ((List (ByteArray × ByteArray × Unit) × Unit) × Unit)) (K0 : List (ByteArray × ByteArray × Unit) → Option ((List (ByteArray × ByteArray × Unit) × Unit) × Unit)) (x0 : List (ByteArray × ByteArray × Unit)) (x1 : Int) (x2 : List (ByteArray × ByteArray × Unit)) : Option ((List (ByteArray × ByteArray × Unit) × Unit) × Unit) :=
  br (decide (x1 < (↑(List.length x0) : Int)))
    (br (decide (0 ≤ x1) && decide (x1 < (↑(List.length x0) : Int)))
      (bindD (C_laws_toWay D (List.getD x0 (Int.toNat x1) (ByteArray.empty, ByteArray.empty, ()))) fun b ↦
        br (decide (0 ≤ x1) && decide (x1 < (↑(List.length x2) : Int)))
          (go x0 (IntKind.wrap IntKind.i64 (x1 + 1)) (List.set x2 (Int.toNat x1) (Prod.fst (Prod.fst b)))) none)
      none)
    (K0 x2)
noncomputable def laws_toWayS_L0 (D : Den ctx) (n : Nat) (K0 : List (ByteArray × ByteArray × Unit) → Option ((List (ByteArray × ByteArray × Unit) × Unit) × Unit)) : Nat → (List (ByteArray × ByteArray × Unit)) → (Int) → (List (ByteArray × ByteArray × Unit)) → Option ((List (ByteArray × ByteArray × Unit) × Unit) × Unit)
  | 0 => (fun x0 x1 x2 => none)
  | m + 1 => (fun x0 x1 x2 => laws_toWayS_b0 D n (laws_toWayS_L0 D n K0 m) K0 x0 x1 x2)
noncomputable def laws_toWayS_x0_0 (D : Den ctx) (n : Nat) (v0_0 : List (ByteArray × ByteArray × Unit)) : Option ((List (ByteArray × ByteArray × Unit) × Unit) × Unit) :=
  some ((v0_0, ()), ())
noncomputable def laws_toWayS_LP0 (D : Den ctx) (n : Nat) : (List (ByteArray × ByteArray × Unit)) → (Int) → (List (ByteArray × ByteArray × Unit)) → Option ((List (ByteArray × ByteArray × Unit) × Unit) × Unit) :=
  (fun x0 x1 x2 => laws_toWayS_L0 D n (fun v0_0 => laws_toWayS_x0_0 D n v0_0) n x0 x1 x2)
noncomputable def laws_toWayS_e (D : Den ctx) (n : Nat) (lp0 : List (ByteArray × ByteArray × Unit) → Int → List (ByteArray × ByteArray × Unit) → Option ((List (ByteArray × ByteArray × Unit) × Unit) × Unit)) (a0 : List (ByteArray × ByteArray × Unit)) : Option ((List (ByteArray × ByteArray × Unit) × Unit) × Unit) :=
  br
    (decide (0 ≤ (↑(List.length a0) : Int)) && decide ((↑(List.length a0) : Int) ≤ (↑(List.length a0) : Int)) &&
      decide ((↑(List.length a0) : Int) ≤ (↑bound : Int)))
    (lp0 a0 0 (List.replicate (Int.toNat (↑(List.length a0) : Int)) (ByteArray.empty, ByteArray.empty, ()))) none
noncomputable def F_laws_toWayS (D : Den ctx) (n : Nat) (a0 : List (ByteArray × ByteArray × Unit)) : Option ((List (ByteArray × ByteArray × Unit) × Unit) × Unit) := laws_toWayS_e D n (laws_toWayS_LP0 D n) a0
def laws_toWayS_Q0 (x0 : List (ByteArray × ByteArray × Unit)) (x1 : Int) (x2 : List (ByteArray × ByteArray × Unit)) : St :=
  stq 23 [(0, AV.val (Ty.sl (Ty.pair Ty.str (Ty.pair Ty.str Ty.unit))) x0), (3, AV.brw 3 [] 0), (4, AV.val (Ty.int IntKind.i64) x1)] [(3, Root.mk (Ty.sl (Ty.pair Ty.str (Ty.pair Ty.str Ty.unit))) (Mk.own 0 (Mk.pr Mk.no (Mk.pr Mk.no Mk.no))) x2 false)]
def laws_toWayS_Q0_0 (v0_0 : List (ByteArray × ByteArray × Unit)) : St :=
  stq 23 [(3, AV.brw 3 [] 0)] [(3, Root.mk (Ty.sl (Ty.pair Ty.str (Ty.pair Ty.str Ty.unit))) (Mk.own 0 (Mk.pr Mk.no (Mk.pr Mk.no Mk.no))) v0_0 false)]
theorem laws_toWayS_SB0 (D : Den ctx) (n : Nat) (m : Nat) (K : Ex → St → Option (Out ctx 29)) (x0 : List (ByteArray × ByteArray × Unit)) (x1 : Int) (x2 : List (ByteArray × ByteArray × Unit)) :
  LQ funcTab D n 29 [.r, .r, .l, .r, .l] (m + 1) (laws_toWayS_Q0 x0 x1 x2) K = laws_toWayS_b0 D n (fun x0 x1 x2 => LQ funcTab D n 29 [.r, .r, .l, .r, .l] m (laws_toWayS_Q0 x0 x1 x2) K) (fun v0_0 => K (Ex.exit 0) (laws_toWayS_Q0_0 v0_0)) x0 x1 x2 := by kernel_rfl
theorem laws_toWayS_EL0 (D : Den ctx) (n : Nat) (K : Ex → St → Option (Out ctx 29)) : ∀ (m : Nat) (x0 : List (ByteArray × ByteArray × Unit)) (x1 : Int) (x2 : List (ByteArray × ByteArray × Unit)), LQ funcTab D n 29 [.r, .r, .l, .r, .l] m (laws_toWayS_Q0 x0 x1 x2) K = laws_toWayS_L0 D n (fun v0_0 => K (Ex.exit 0) (laws_toWayS_Q0_0 v0_0)) m x0 x1 x2
  | 0, x0, x1, x2 => LQ_zero ..
  | m + 1, x0, x1, x2 => by
    have ih : (fun x0 x1 x2 => LQ funcTab D n 29 [.r, .r, .l, .r, .l] m (laws_toWayS_Q0 x0 x1 x2) K) = laws_toWayS_L0 D n (fun v0_0 => K (Ex.exit 0) (laws_toWayS_Q0_0 v0_0)) m := by funext x0 x1 x2; exact laws_toWayS_EL0 D n K m x0 x1 x2
    rw [laws_toWayS_SB0]
    rw [ih]; rfl
theorem laws_toWayS_X0_0 (D : Den ctx) (n : Nat) (v0_0 : List (ByteArray × ByteArray × Unit)) :
  (CQ funcTab D n 29 [] [.r, .r, .l, .r, .l] (lastK funcTab 29)) (Ex.exit 0) (laws_toWayS_Q0_0 v0_0) = laws_toWayS_x0_0 D n v0_0 := by kernel_rfl
theorem laws_toWayS_ELP0 (D : Den ctx) (n : Nat) (x0 : List (ByteArray × ByteArray × Unit)) (x1 : Int) (x2 : List (ByteArray × ByteArray × Unit)) :
  LQ funcTab D n 29 [.r, .r, .l, .r, .l] n (laws_toWayS_Q0 x0 x1 x2) (CQ funcTab D n 29 [] [.r, .r, .l, .r, .l] (lastK funcTab 29)) = laws_toWayS_LP0 D n x0 x1 x2 := by
  rw [laws_toWayS_EL0]
  simp only [laws_toWayS_X0_0]
  rfl
theorem E_laws_toWayS (D : Den ctx) (n : Nat) (a0 : List (ByteArray × ByteArray × Unit)) : rfC funcTab D n 29 (a0, ()) = F_laws_toWayS D n a0 := by
  have h : rfC funcTab D n 29 (a0, ()) = laws_toWayS_e D n (fun x0 x1 x2 => LQ funcTab D n 29 [.r, .r, .l, .r, .l] n (laws_toWayS_Q0 x0 x1 x2) (CQ funcTab D n 29 [] [.r, .r, .l, .r, .l] (lastK funcTab 29))) a0 := by kernel_rfl
  rw [h]
  simp only [laws_toWayS_ELP0]
  rfl

end Go.G

/- G: functions of the program as told by V. No condition. Printed by a program of this session. -/
namespace Go.G
set_option linter.unusedVariables false
set_option maxRecDepth 100000
set_option maxHeartbeats 0
open Go Go.V
/- impl_WayDel -/
noncomputable def impl_WayDel_e (D : Den ctx) (n : Nat) (a0 : List (ByteArray × ByteArray × Unit)) (a1 : ByteArray × ByteArray × Unit) : Option ((List (ByteArray × ByteArray × Unit) × Unit) × Unit) :=
  bindD (C_slices_Clone_impl_Way_impl_Way D a0) fun b ↦
    bindD (C_slices_DeleteFunc_impl_Way_impl_Way D (Prod.fst (Prod.fst b)) (Clo.mk 68 [CapV.rptr (Ty.pair Ty.str (Ty.pair Ty.str Ty.unit)) a1])) fun b ↦
      some ((Prod.fst (Prod.fst b), ()), ())
noncomputable def F_impl_WayDel (D : Den ctx) (n : Nat) (a0 : List (ByteArray × ByteArray × Unit)) (a1 : ByteArray × ByteArray × Unit) : Option ((List (ByteArray × ByteArray × Unit) × Unit) × Unit) := impl_WayDel_e D n a0 a1
theorem E_impl_WayDel (D : Den ctx) (n : Nat) (a0 : List (ByteArray × ByteArray × Unit)) (a1 : ByteArray × ByteArray × Unit) : rfC funcTab D n 30 (a0, (a1, ())) = F_impl_WayDel D n a0 a1 := by kernel_rfl

end Go.G

/- G: functions of the program as told by V. No condition. Printed by a program of this session. -/
namespace Go.G
set_option linter.unusedVariables false
set_option maxRecDepth 100000
set_option maxHeartbeats 0
open Go Go.V
/- laws_eqWayS -/
noncomputable def laws_eqWayS_b0 (D : Den ctx) (n : Nat) (go : List (ByteArray × ByteArray × Unit) → List (ByteArray × ByteArray × Unit) → Int → Option ((Bool × Unit) × Unit)) (K0 : Bool → Option ((Bool × Unit) × Unit)) (K1 : Option ((Bool × Unit) × Unit)) (x0 : List (ByteArray × ByteArray × Unit)) (x1 : List (ByteArray × ByteArray × Unit)) (x2 : Int) : Option ((Bool × Unit) × Unit) :=
  br (decide (x2 < (↑(List.length x0) : Int)))
    (br (decide (0 ≤ x2) && decide (x2 < (↑(List.length x0) : Int)))
      (br (decide (0 ≤ x2) && decide (x2 < (↑(List.length x1) : Int)))
        (bindD
          (C_laws_eqWay D (List.getD x0 (Int.toNat x2) (ByteArray.empty, ByteArray.empty, ()))
            (List.getD x1 (Int.toNat x2) (ByteArray.empty, ByteArray.empty, ())))
          fun b ↦ br (!Prod.fst (Prod.fst b)) (K0 false) (go x0 x1 (IntKind.wrap IntKind.i64 (x2 + 1))))
        none)
      none)
    K1
noncomputable def laws_eqWayS_L0 (D : Den ctx) (n : Nat) (K0 : Bool → Option ((Bool × Unit) × Unit)) (K1 : Option ((Bool × Unit) × Unit)) : Nat → (List (ByteArray × ByteArray × Unit)) → (List (ByteArray × ByteArray × Unit)) → (Int) → Option ((Bool × Unit) × Unit)
  | 0 => (fun x0 x1 x2 => none)
  | m + 1 => (fun x0 x1 x2 => laws_eqWayS_b0 D n (laws_eqWayS_L0 D n K0 K1 m) K0 K1 x0 x1 x2)
noncomputable def laws_eqWayS_x0_0 (D : Den ctx) (n : Nat) (v0_0 : Bool) : Option ((Bool × Unit) × Unit) :=
  some ((v0_0, ()), ())
noncomputable def laws_eqWayS_x0_1 (D : Den ctx) (n : Nat) : Option ((Bool × Unit) × Unit) :=
  some ((true, ()), ())
noncomputable def laws_eqWayS_LP0 (D : Den ctx) (n : Nat) : (List (ByteArray × ByteArray × Unit)) → (List (ByteArray × ByteArray × Unit)) → (Int) → Option ((Bool × Unit) × Unit) :=
  (fun x0 x1 x2 => laws_eqWayS_L0 D n (fun v0_0 => laws_eqWayS_x0_0 D n v0_0) (laws_eqWayS_x0_1 D n) n x0 x1 x2)
noncomputable def laws_eqWayS_e (D : Den ctx) (n : Nat) (lp0 : List (ByteArray × ByteArray × Unit) → List (ByteArray × ByteArray × Unit) → Int → Option ((Bool × Unit) × Unit)) (a0 : List (ByteArray × ByteArray × Unit)) (a1 : List (ByteArray × ByteArray × Unit)) : Option ((Bool × Unit) × Unit) :=
  br ((↑(List.length a0) : Int) != (↑(List.length a1) : Int)) (some ((false, ()), ())) (lp0 a0 a1 0)
noncomputable def F_laws_eqWayS (D : Den ctx) (n : Nat) (a0 : List (ByteArray × ByteArray × Unit)) (a1 : List (ByteArray × ByteArray × Unit)) : Option ((Bool × Unit) × Unit) := laws_eqWayS_e D n (laws_eqWayS_LP0 D n) a0 a1
def laws_eqWayS_Q0 (x0 : List (ByteArray × ByteArray × Unit)) (x1 : List (ByteArray × ByteArray × Unit)) (x2 : Int) : St :=
  stq 27 [(0, AV.val (Ty.sl (Ty.pair Ty.str (Ty.pair Ty.str Ty.unit))) x0), (1, AV.val (Ty.sl (Ty.pair Ty.str (Ty.pair Ty.str Ty.unit))) x1), (5, AV.val (Ty.int IntKind.i64) x2)] []
def laws_eqWayS_Q0_0 (v0_0 : Bool) : St :=
  stq 27 [(4, AV.val Ty.bool v0_0)] []
def laws_eqWayS_Q0_1 : St :=
  stq 27 [] []
theorem laws_eqWayS_SB0 (D : Den ctx) (n : Nat) (m : Nat) (K : Ex → St → Option (Out ctx 31)) (x0 : List (ByteArray × ByteArray × Unit)) (x1 : List (ByteArray × ByteArray × Unit)) (x2 : Int) :
  LQ funcTab D n 31 [.r, .r, .l, .r, .l] (m + 1) (laws_eqWayS_Q0 x0 x1 x2) K = laws_eqWayS_b0 D n (fun x0 x1 x2 => LQ funcTab D n 31 [.r, .r, .l, .r, .l] m (laws_eqWayS_Q0 x0 x1 x2) K) (fun v0_0 => K (Ex.ret) (laws_eqWayS_Q0_0 v0_0)) (K (Ex.exit 0) (laws_eqWayS_Q0_1)) x0 x1 x2 := by kernel_rfl
theorem laws_eqWayS_EL0 (D : Den ctx) (n : Nat) (K : Ex → St → Option (Out ctx 31)) : ∀ (m : Nat) (x0 : List (ByteArray × ByteArray × Unit)) (x1 : List (ByteArray × ByteArray × Unit)) (x2 : Int), LQ funcTab D n 31 [.r, .r, .l, .r, .l] m (laws_eqWayS_Q0 x0 x1 x2) K = laws_eqWayS_L0 D n (fun v0_0 => K (Ex.ret) (laws_eqWayS_Q0_0 v0_0)) (K (Ex.exit 0) (laws_eqWayS_Q0_1)) m x0 x1 x2
  | 0, x0, x1, x2 => LQ_zero ..
  | m + 1, x0, x1, x2 => by
    have ih : (fun x0 x1 x2 => LQ funcTab D n 31 [.r, .r, .l, .r, .l] m (laws_eqWayS_Q0 x0 x1 x2) K) = laws_eqWayS_L0 D n (fun v0_0 => K (Ex.ret) (laws_eqWayS_Q0_0 v0_0)) (K (Ex.exit 0) (laws_eqWayS_Q0_1)) m := by funext x0 x1 x2; exact laws_eqWayS_EL0 D n K m x0 x1 x2
    rw [laws_eqWayS_SB0]
    rw [ih]; rfl
theorem laws_eqWayS_X0_0 (D : Den ctx) (n : Nat) (v0_0 : Bool) :
  (CQ funcTab D n 31 [] [.r, .r, .l, .r, .l] (lastK funcTab 31)) (Ex.ret) (laws_eqWayS_Q0_0 v0_0) = laws_eqWayS_x0_0 D n v0_0 := by kernel_rfl
theorem laws_eqWayS_X0_1 (D : Den ctx) (n : Nat) :
  (CQ funcTab D n 31 [] [.r, .r, .l, .r, .l] (lastK funcTab 31)) (Ex.exit 0) (laws_eqWayS_Q0_1) = laws_eqWayS_x0_1 D n := by kernel_rfl
theorem laws_eqWayS_ELP0 (D : Den ctx) (n : Nat) (x0 : List (ByteArray × ByteArray × Unit)) (x1 : List (ByteArray × ByteArray × Unit)) (x2 : Int) :
  LQ funcTab D n 31 [.r, .r, .l, .r, .l] n (laws_eqWayS_Q0 x0 x1 x2) (CQ funcTab D n 31 [] [.r, .r, .l, .r, .l] (lastK funcTab 31)) = laws_eqWayS_LP0 D n x0 x1 x2 := by
  rw [laws_eqWayS_EL0]
  simp only [laws_eqWayS_X0_0, laws_eqWayS_X0_1]
  rfl
theorem E_laws_eqWayS (D : Den ctx) (n : Nat) (a0 : List (ByteArray × ByteArray × Unit)) (a1 : List (ByteArray × ByteArray × Unit)) : rfC funcTab D n 31 (a0, (a1, ())) = F_laws_eqWayS D n a0 a1 := by
  have h : rfC funcTab D n 31 (a0, (a1, ())) = laws_eqWayS_e D n (fun x0 x1 x2 => LQ funcTab D n 31 [.r, .r, .l, .r, .l] n (laws_eqWayS_Q0 x0 x1 x2) (CQ funcTab D n 31 [] [.r, .r, .l, .r, .l] (lastK funcTab 31))) a0 a1 := by kernel_rfl
  rw [h]
  simp only [laws_eqWayS_ELP0]
  rfl

end Go.G

/- G: functions of the program as told by V. No condition. Printed by a program of this session. -/
namespace Go.G
set_option linter.unusedVariables false
set_option maxRecDepth 100000
set_option maxHeartbeats 0
open Go Go.V
/- laws_markWayS -/
noncomputable def laws_markWayS_b0 (D : Den ctx) (n : Nat) (go : Int → Int → List (ByteArray × ByteArray × Unit) → Option ((Int × Unit) × List (ByteArray × ByteArray × Unit) × Unit)) (K0 : Int → List (ByteArray × ByteArray × Unit) → Option ((Int × Unit) × List (ByteArray × ByteArray × Unit) × Unit)) (x0 : Int) (x1 : Int) (x2 : List (ByteArray × ByteArray × Unit)) : Option ((Int × Unit) × List (ByteArray × ByteArray × Unit) × Unit) :=
  br (decide (x1 < (↑(List.length x2) : Int)))
    (bindD (C_laws_markText D x0) fun b ↦
      br (decide (0 ≤ x1) && decide (x1 < (↑(List.length x2) : Int)))
        (bindD (C_laws_markText D (IntKind.wrap IntKind.i64 (x0 + 1))) fun b_1 ↦
          br
            (decide (0 ≤ x1) &&
              decide
                (x1 <
                  (↑(List.length
                        (List.set x2 (Int.toNat x1)
                          (Prod.fst (Prod.fst b), Prod.snd (List.getD x2 (Int.toNat x1) (ByteArray.empty, ByteArray.empty, ()))))) :
                    Int)))
            (go (IntKind.wrap IntKind.i64 (IntKind.wrap IntKind.i64 (x0 + 1) + 1)) (IntKind.wrap IntKind.i64 (x1 + 1))
              (List.set
                (List.set x2 (Int.toNat x1) (Prod.fst (Prod.fst b), Prod.snd (List.getD x2 (Int.toNat x1) (ByteArray.empty, ByteArray.empty, ()))))
                (Int.toNat x1)
                (Prod.fst
                    (List.getD
                      (List.set x2 (Int.toNat x1)
                        (Prod.fst (Prod.fst b), Prod.snd (List.getD x2 (Int.toNat x1) (ByteArray.empty, ByteArray.empty, ()))))
                      (Int.toNat x1) (ByteArray.empty, ByteArray.empty, ())),
                  Prod.fst (Prod.fst b_1),
                  Prod.snd
                    (Prod.snd
                      (List.getD
                        (List.set x2 (Int.toNat x1)
                          (Prod.fst (Prod.fst b), Prod.snd (List.getD x2 (Int.toNat x1) (ByteArray.empty, ByteArray.empty, ()))))
                        (Int.toNat x1) (ByteArray.empty, ByteArray.empty, ()))))))
            none)
        none)
    (K0 x0 x2)
noncomputable def laws_markWayS_L0 (D : Den ctx) (n : Nat) (K0 : Int → List (ByteArray × ByteArray × Unit) → Option ((Int × Unit) × List (ByteArray × ByteArray × Unit) × Unit)) : Nat → (Int) → (Int) → (List (ByteArray × ByteArray × Unit)) → Option ((Int × Unit) × List (ByteArray × ByteArray × Unit) × Unit)
  | 0 => (fun x0 x1 x2 => none)
  | m + 1 => (fun x0 x1 x2 => laws_markWayS_b0 D n (laws_markWayS_L0 D n K0 m) K0 x0 x1 x2)
noncomputable def laws_markWayS_x0_0 (D : Den ctx) (n : Nat) (v0_0 : Int) (v0_1 : List (ByteArray × ByteArray × Unit)) : Option ((Int × Unit) × List (ByteArray × ByteArray × Unit) × Unit) :=
  some ((v0_0, ()), v0_1, ())
noncomputable def laws_markWayS_LP0 (D : Den ctx) (n : Nat) : (Int) → (Int) → (List (ByteArray × ByteArray × Unit)) → Option ((Int × Unit) × List (ByteArray × ByteArray × Unit) × Unit) :=
  (fun x0 x1 x2 => laws_markWayS_L0 D n (fun v0_0 v0_1 => laws_markWayS_x0_0 D n v0_0 v0_1) n x0 x1 x2)
noncomputable def laws_markWayS_e (D : Den ctx) (n : Nat) (lp0 : Int → Int → List (ByteArray × ByteArray × Unit) → Option ((Int × Unit) × List (ByteArray × ByteArray × Unit) × Unit)) (a0 : List (ByteArray × ByteArray × Unit)) (a1 : Int) : Option ((Int × Unit) × List (ByteArray × ByteArray × Unit) × Unit) :=
  lp0 a1 0 a0
noncomputable def F_laws_markWayS (D : Den ctx) (n : Nat) (a0 : List (ByteArray × ByteArray × Unit)) (a1 : Int) : Option ((Int × Unit) × List (ByteArray × ByteArray × Unit) × Unit) := laws_markWayS_e D n (laws_markWayS_LP0 D n) a0 a1
def laws_markWayS_Q0 (x0 : Int) (x1 : Int) (x2 : List (ByteArray × ByteArray × Unit)) : St :=
  stq 29 [(0, AV.brw 0 [] 1048576), (1, AV.val (Ty.int IntKind.i64) x0), (5, AV.val (Ty.int IntKind.i64) x1)] [(0, Root.mk (Ty.sl (Ty.pair Ty.str (Ty.pair Ty.str Ty.unit))) (Mk.own 1048576 (Mk.pr Mk.no (Mk.pr Mk.no Mk.no))) x2 false)]
def laws_markWayS_Q0_0 (v0_0 : Int) (v0_1 : List (ByteArray × ByteArray × Unit)) : St :=
  stq 29 [(0, AV.brw 0 [] 1048576), (1, AV.val (Ty.int IntKind.i64) v0_0)] [(0, Root.mk (Ty.sl (Ty.pair Ty.str (Ty.pair Ty.str Ty.unit))) (Mk.own 1048576 (Mk.pr Mk.no (Mk.pr Mk.no Mk.no))) v0_1 false)]
theorem laws_markWayS_SB0 (D : Den ctx) (n : Nat) (m : Nat) (K : Ex → St → Option (Out ctx 32)) (x0 : Int) (x1 : Int) (x2 : List (ByteArray × ByteArray × Unit)) :
  LQ funcTab D n 32 [.r, .l, .r, .l] (m + 1) (laws_markWayS_Q0 x0 x1 x2) K = laws_markWayS_b0 D n (fun x0 x1 x2 => LQ funcTab D n 32 [.r, .l, .r, .l] m (laws_markWayS_Q0 x0 x1 x2) K) (fun v0_0 v0_1 => K (Ex.exit 0) (laws_markWayS_Q0_0 v0_0 v0_1)) x0 x1 x2 := by kernel_rfl
theorem laws_markWayS_EL0 (D : Den ctx) (n : Nat) (K : Ex → St → Option (Out ctx 32)) : ∀ (m : Nat) (x0 : Int) (x1 : Int) (x2 : List (ByteArray × ByteArray × Unit)), LQ funcTab D n 32 [.r, .l, .r, .l] m (laws_markWayS_Q0 x0 x1 x2) K = laws_markWayS_L0 D n (fun v0_0 v0_1 => K (Ex.exit 0) (laws_markWayS_Q0_0 v0_0 v0_1)) m x0 x1 x2
  | 0, x0, x1, x2 => LQ_zero ..
  | m + 1, x0, x1, x2 => by
    have ih : (fun x0 x1 x2 => LQ funcTab D n 32 [.r, .l, .r, .l] m (laws_markWayS_Q0 x0 x1 x2) K) = laws_markWayS_L0 D n (fun v0_0 v0_1 => K (Ex.exit 0) (laws_markWayS_Q0_0 v0_0 v0_1)) m := by funext x0 x1 x2; exact laws_markWayS_EL0 D n K m x0 x1 x2
    rw [laws_markWayS_SB0]
    rw [ih]; rfl
theorem laws_markWayS_X0_0 (D : Den ctx) (n : Nat) (v0_0 : Int) (v0_1 : List (ByteArray × ByteArray × Unit)) :
  (CQ funcTab D n 32 [] [.r, .l, .r, .l] (lastK funcTab 32)) (Ex.exit 0) (laws_markWayS_Q0_0 v0_0 v0_1) = laws_markWayS_x0_0 D n v0_0 v0_1 := by kernel_rfl
theorem laws_markWayS_ELP0 (D : Den ctx) (n : Nat) (x0 : Int) (x1 : Int) (x2 : List (ByteArray × ByteArray × Unit)) :
  LQ funcTab D n 32 [.r, .l, .r, .l] n (laws_markWayS_Q0 x0 x1 x2) (CQ funcTab D n 32 [] [.r, .l, .r, .l] (lastK funcTab 32)) = laws_markWayS_LP0 D n x0 x1 x2 := by
  rw [laws_markWayS_EL0]
  simp only [laws_markWayS_X0_0]
  rfl
theorem E_laws_markWayS (D : Den ctx) (n : Nat) (a0 : List (ByteArray × ByteArray × Unit)) (a1 : Int) : rfC funcTab D n 32 (a0, (a1, ())) = F_laws_markWayS D n a0 a1 := by
  have h : rfC funcTab D n 32 (a0, (a1, ())) = laws_markWayS_e D n (fun x0 x1 x2 => LQ funcTab D n 32 [.r, .l, .r, .l] n (laws_markWayS_Q0 x0 x1 x2) (CQ funcTab D n 32 [] [.r, .l, .r, .l] (lastK funcTab 32))) a0 a1 := by kernel_rfl
  rw [h]
  simp only [laws_markWayS_ELP0]
  rfl

end Go.G

/- G: functions of the program as told by V. No condition. Printed by a program of this session. -/
namespace Go.G
set_option linter.unusedVariables false
set_option maxRecDepth 100000
set_option maxHeartbeats 0
open Go Go.V
/- laws_heldWayS -/
noncomputable def laws_heldWayS_b0 (D : Den ctx) (n : Nat) (go : List (ByteArray × ByteArray × Unit) → Int → Int → Option ((Int × Unit) × Unit)) (K0 : Int → Int → Option ((Int × Unit) × Unit)) (K1 : Int → Option ((Int × Unit) × Unit)) (x0 : List (ByteArray × ByteArray × Unit)) (x1 : Int) (x2 : Int) : Option ((Int × Unit) × Unit) :=
  br (decide (x2 < (↑(List.length x0) : Int)))
    (br (decide (0 ≤ x2) && decide (x2 < (↑(List.length x0) : Int)))
      (bindD (C_laws_markText D x1) fun b ↦
        br
          (!List.beq (ByteArray.toList (Prod.fst (List.getD x0 (Int.toNat x2) (ByteArray.empty, ByteArray.empty, ()))))
              (ByteArray.toList (Prod.fst (Prod.fst b))))
          (K0 x1 (-1))
          (br (decide (0 ≤ x2) && decide (x2 < (↑(List.length x0) : Int)))
            (bindD (C_laws_markText D (IntKind.wrap IntKind.i64 (x1 + 1))) fun b ↦
              br
                (!List.beq (ByteArray.toList (Prod.fst (Prod.snd (List.getD x0 (Int.toNat x2) (ByteArray.empty, ByteArray.empty, ())))))
                    (ByteArray.toList (Prod.fst (Prod.fst b))))
                (K0 (IntKind.wrap IntKind.i64 (x1 + 1)) (-1))
                (go x0 (IntKind.wrap IntKind.i64 (IntKind.wrap IntKind.i64 (x1 + 1) + 1)) (IntKind.wrap IntKind.i64 (x2 + 1))))
            none))
      none)
    (K1 x1)
noncomputable def laws_heldWayS_L0 (D : Den ctx) (n : Nat) (K0 : Int → Int → Option ((Int × Unit) × Unit)) (K1 : Int → Option ((Int × Unit) × Unit)) : Nat → (List (ByteArray × ByteArray × Unit)) → (Int) → (Int) → Option ((Int × Unit) × Unit)
  | 0 => (fun x0 x1 x2 => none)
  | m + 1 => (fun x0 x1 x2 => laws_heldWayS_b0 D n (laws_heldWayS_L0 D n K0 K1 m) K0 K1 x0 x1 x2)
noncomputable def laws_heldWayS_x0_0 (D : Den ctx) (n : Nat) (v0_0 : Int) (v0_1 : Int) : Option ((Int × Unit) × Unit) :=
  some ((v0_1, ()), ())
noncomputable def laws_heldWayS_x0_1 (D : Den ctx) (n : Nat) (v1_0 : Int) : Option ((Int × Unit) × Unit) :=
  some ((v1_0, ()), ())
noncomputable def laws_heldWayS_LP0 (D : Den ctx) (n : Nat) : (List (ByteArray × ByteArray × Unit)) → (Int) → (Int) → Option ((Int × Unit) × Unit) :=
  (fun x0 x1 x2 => laws_heldWayS_L0 D n (fun v0_0 v0_1 => laws_heldWayS_x0_0 D n v0_0 v0_1) (fun v1_0 => laws_heldWayS_x0_1 D n v1_0) n x0 x1 x2)
noncomputable def laws_heldWayS_e (D : Den ctx) (n : Nat) (lp0 : List (ByteArray × ByteArray × Unit) → Int → Int → Option ((Int × Unit) × Unit)) (a0 : List (ByteArray × ByteArray × Unit)) (a1 : Int) : Option ((Int × Unit) × Unit) :=
  lp0 a0 a1 0
noncomputable def F_laws_heldWayS (D : Den ctx) (n : Nat) (a0 : List (ByteArray × ByteArray × Unit)) (a1 : Int) : Option ((Int × Unit) × Unit) := laws_heldWayS_e D n (laws_heldWayS_LP0 D n) a0 a1
def laws_heldWayS_Q0 (x0 : List (ByteArray × ByteArray × Unit)) (x1 : Int) (x2 : Int) : St :=
  stq 33 [(0, AV.val (Ty.sl (Ty.pair Ty.str (Ty.pair Ty.str Ty.unit))) x0), (1, AV.val (Ty.int IntKind.i64) x1), (5, AV.val (Ty.int IntKind.i64) x2)] []
def laws_heldWayS_Q0_0 (v0_0 : Int) (v0_1 : Int) : St :=
  stq 33 [(1, AV.val (Ty.int IntKind.i64) v0_0), (4, AV.val (Ty.int IntKind.i64) v0_1)] []
def laws_heldWayS_Q0_1 (v1_0 : Int) : St :=
  stq 33 [(1, AV.val (Ty.int IntKind.i64) v1_0)] []
theorem laws_heldWayS_SB0 (D : Den ctx) (n : Nat) (m : Nat) (K : Ex → St → Option (Out ctx 33)) (x0 : List (ByteArray × ByteArray × Unit)) (x1 : Int) (x2 : Int) :
  LQ funcTab D n 33 [.r, .l, .r, .l] (m + 1) (laws_heldWayS_Q0 x0 x1 x2) K = laws_heldWayS_b0 D n (fun x0 x1 x2 => LQ funcTab D n 33 [.r, .l, .r, .l] m (laws_heldWayS_Q0 x0 x1 x2) K) (fun v0_0 v0_1 => K (Ex.ret) (laws_heldWayS_Q0_0 v0_0 v0_1)) (fun v1_0 => K (Ex.exit 0) (laws_heldWayS_Q0_1 v1_0)) x0 x1 x2 := by kernel_rfl
theorem laws_heldWayS_EL0 (D : Den ctx) (n : Nat) (K : Ex → St → Option (Out ctx 33)) : ∀ (m : Nat) (x0 : List (ByteArray × ByteArray × Unit)) (x1 : Int) (x2 : Int), LQ funcTab D n 33 [.r, .l, .r, .l] m (laws_heldWayS_Q0 x0 x1 x2) K = laws_heldWayS_L0 D n (fun v0_0 v0_1 => K (Ex.ret) (laws_heldWayS_Q0_0 v0_0 v0_1)) (fun v1_0 => K (Ex.exit 0) (laws_heldWayS_Q0_1 v1_0)) m x0 x1 x2
  | 0, x0, x1, x2 => LQ_zero ..
  | m + 1, x0, x1, x2 => by
    have ih : (fun x0 x1 x2 => LQ funcTab D n 33 [.r, .l, .r, .l] m (laws_heldWayS_Q0 x0 x1 x2) K) = laws_heldWayS_L0 D n (fun v0_0 v0_1 => K (Ex.ret) (laws_heldWayS_Q0_0 v0_0 v0_1)) (fun v1_0 => K (Ex.exit 0) (laws_heldWayS_Q0_1 v1_0)) m := by funext x0 x1 x2; exact laws_heldWayS_EL0 D n K m x0 x1 x2
    rw [laws_heldWayS_SB0]
    rw [ih]; rfl
theorem laws_heldWayS_X0_0 (D : Den ctx) (n : Nat) (v0_0 : Int) (v0_1 : Int) :
  (CQ funcTab D n 33 [] [.r, .l, .r, .l] (lastK funcTab 33)) (Ex.ret) (laws_heldWayS_Q0_0 v0_0 v0_1) = laws_heldWayS_x0_0 D n v0_0 v0_1 := by kernel_rfl
theorem laws_heldWayS_X0_1 (D : Den ctx) (n : Nat) (v1_0 : Int) :
  (CQ funcTab D n 33 [] [.r, .l, .r, .l] (lastK funcTab 33)) (Ex.exit 0) (laws_heldWayS_Q0_1 v1_0) = laws_heldWayS_x0_1 D n v1_0 := by kernel_rfl
theorem laws_heldWayS_ELP0 (D : Den ctx) (n : Nat) (x0 : List (ByteArray × ByteArray × Unit)) (x1 : Int) (x2 : Int) :
  LQ funcTab D n 33 [.r, .l, .r, .l] n (laws_heldWayS_Q0 x0 x1 x2) (CQ funcTab D n 33 [] [.r, .l, .r, .l] (lastK funcTab 33)) = laws_heldWayS_LP0 D n x0 x1 x2 := by
  rw [laws_heldWayS_EL0]
  simp only [laws_heldWayS_X0_0, laws_heldWayS_X0_1]
  rfl
theorem E_laws_heldWayS (D : Den ctx) (n : Nat) (a0 : List (ByteArray × ByteArray × Unit)) (a1 : Int) : rfC funcTab D n 33 (a0, (a1, ())) = F_laws_heldWayS D n a0 a1 := by
  have h : rfC funcTab D n 33 (a0, (a1, ())) = laws_heldWayS_e D n (fun x0 x1 x2 => LQ funcTab D n 33 [.r, .l, .r, .l] n (laws_heldWayS_Q0 x0 x1 x2) (CQ funcTab D n 33 [] [.r, .l, .r, .l] (lastK funcTab 33))) a0 a1 := by kernel_rfl
  rw [h]
  simp only [laws_heldWayS_ELP0]
  rfl

end Go.G

/- G: functions of the program as told by V. No condition. Printed by a program of this session. -/
namespace Go.G
set_option linter.unusedVariables false
set_option maxRecDepth 100000
set_option maxHeartbeats 0
open Go Go.V
/- laws_eqIntS -/
noncomputable def laws_eqIntS_b0 (D : Den ctx) (n : Nat) (go : List Int → List Int → Int → Option ((Bool × Unit) × Unit)) (K0 : Bool → Option ((Bool × Unit) × Unit)) (K1 : Option ((Bool × Unit) × Unit)) (x0 : List Int) (x1 : List Int) (x2 : Int) : Option ((Bool × Unit) × Unit) :=
  br (decide (x2 < (↑(List.length x0) : Int)))
    (br (decide (0 ≤ x2) && decide (x2 < (↑(List.length x0) : Int)))
      (br (decide (0 ≤ x2) && decide (x2 < (↑(List.length x1) : Int)))
        (br (List.getD x0 (Int.toNat x2) 0 != List.getD x1 (Int.toNat x2) 0) (K0 false) (go x0 x1 (IntKind.wrap IntKind.i64 (x2 + 1)))) none)
      none)
    K1
noncomputable def laws_eqIntS_L0 (D : Den ctx) (n : Nat) (K0 : Bool → Option ((Bool × Unit) × Unit)) (K1 : Option ((Bool × Unit) × Unit)) : Nat → (List Int) → (List Int) → (Int) → Option ((Bool × Unit) × Unit)
  | 0 => (fun x0 x1 x2 => none)
  | m + 1 => (fun x0 x1 x2 => laws_eqIntS_b0 D n (laws_eqIntS_L0 D n K0 K1 m) K0 K1 x0 x1 x2)
noncomputable def laws_eqIntS_x0_0 (D : Den ctx) (n : Nat) (v0_0 : Bool) : Option ((Bool × Unit) × Unit) :=
  some ((v0_0, ()), ())
noncomputable def laws_eqIntS_x0_1 (D : Den ctx) (n : Nat) : Option ((Bool × Unit) × Unit) :=
  some ((true, ()), ())
noncomputable def laws_eqIntS_LP0 (D : Den ctx) (n : Nat) : (List Int) → (List Int) → (Int) → Option ((Bool × Unit) × Unit) :=
  (fun x0 x1 x2 => laws_eqIntS_L0 D n (fun v0_0 => laws_eqIntS_x0_0 D n v0_0) (laws_eqIntS_x0_1 D n) n x0 x1 x2)
noncomputable def laws_eqIntS_e (D : Den ctx) (n : Nat) (lp0 : List Int → List Int → Int → Option ((Bool × Unit) × Unit)) (a0 : List Int) (a1 : List Int) : Option ((Bool × Unit) × Unit) :=
  br ((↑(List.length a0) : Int) != (↑(List.length a1) : Int)) (some ((false, ()), ())) (lp0 a0 a1 0)
noncomputable def F_laws_eqIntS (D : Den ctx) (n : Nat) (a0 : List Int) (a1 : List Int) : Option ((Bool × Unit) × Unit) := laws_eqIntS_e D n (laws_eqIntS_LP0 D n) a0 a1
def laws_eqIntS_Q0 (x0 : List Int) (x1 : List Int) (x2 : Int) : St :=
  stq 26 [(0, AV.val (Ty.sl (Ty.int IntKind.i64)) x0), (1, AV.val (Ty.sl (Ty.int IntKind.i64)) x1), (5, AV.val (Ty.int IntKind.i64) x2)] []
def laws_eqIntS_Q0_0 (v0_0 : Bool) : St :=
  stq 26 [(4, AV.val Ty.bool v0_0)] []
def laws_eqIntS_Q0_1 : St :=
  stq 26 [] []
theorem laws_eqIntS_SB0 (D : Den ctx) (n : Nat) (m : Nat) (K : Ex → St → Option (Out ctx 60)) (x0 : List Int) (x1 : List Int) (x2 : Int) :
  LQ funcTab D n 60 [.r, .r, .l, .r, .l] (m + 1) (laws_eqIntS_Q0 x0 x1 x2) K = laws_eqIntS_b0 D n (fun x0 x1 x2 => LQ funcTab D n 60 [.r, .r, .l, .r, .l] m (laws_eqIntS_Q0 x0 x1 x2) K) (fun v0_0 => K (Ex.ret) (laws_eqIntS_Q0_0 v0_0)) (K (Ex.exit 0) (laws_eqIntS_Q0_1)) x0 x1 x2 := by kernel_rfl
theorem laws_eqIntS_EL0 (D : Den ctx) (n : Nat) (K : Ex → St → Option (Out ctx 60)) : ∀ (m : Nat) (x0 : List Int) (x1 : List Int) (x2 : Int), LQ funcTab D n 60 [.r, .r, .l, .r, .l] m (laws_eqIntS_Q0 x0 x1 x2) K = laws_eqIntS_L0 D n (fun v0_0 => K (Ex.ret) (laws_eqIntS_Q0_0 v0_0)) (K (Ex.exit 0) (laws_eqIntS_Q0_1)) m x0 x1 x2
  | 0, x0, x1, x2 => LQ_zero ..
  | m + 1, x0, x1, x2 => by
    have ih : (fun x0 x1 x2 => LQ funcTab D n 60 [.r, .r, .l, .r, .l] m (laws_eqIntS_Q0 x0 x1 x2) K) = laws_eqIntS_L0 D n (fun v0_0 => K (Ex.ret) (laws_eqIntS_Q0_0 v0_0)) (K (Ex.exit 0) (laws_eqIntS_Q0_1)) m := by funext x0 x1 x2; exact laws_eqIntS_EL0 D n K m x0 x1 x2
    rw [laws_eqIntS_SB0]
    rw [ih]; rfl
theorem laws_eqIntS_X0_0 (D : Den ctx) (n : Nat) (v0_0 : Bool) :
  (CQ funcTab D n 60 [] [.r, .r, .l, .r, .l] (lastK funcTab 60)) (Ex.ret) (laws_eqIntS_Q0_0 v0_0) = laws_eqIntS_x0_0 D n v0_0 := by kernel_rfl
theorem laws_eqIntS_X0_1 (D : Den ctx) (n : Nat) :
  (CQ funcTab D n 60 [] [.r, .r, .l, .r, .l] (lastK funcTab 60)) (Ex.exit 0) (laws_eqIntS_Q0_1) = laws_eqIntS_x0_1 D n := by kernel_rfl
theorem laws_eqIntS_ELP0 (D : Den ctx) (n : Nat) (x0 : List Int) (x1 : List Int) (x2 : Int) :
  LQ funcTab D n 60 [.r, .r, .l, .r, .l] n (laws_eqIntS_Q0 x0 x1 x2) (CQ funcTab D n 60 [] [.r, .r, .l, .r, .l] (lastK funcTab 60)) = laws_eqIntS_LP0 D n x0 x1 x2 := by
  rw [laws_eqIntS_EL0]
  simp only [laws_eqIntS_X0_0, laws_eqIntS_X0_1]
  rfl
theorem E_laws_eqIntS (D : Den ctx) (n : Nat) (a0 : List Int) (a1 : List Int) : rfC funcTab D n 60 (a0, (a1, ())) = F_laws_eqIntS D n a0 a1 := by
  have h : rfC funcTab D n 60 (a0, (a1, ())) = laws_eqIntS_e D n (fun x0 x1 x2 => LQ funcTab D n 60 [.r, .r, .l, .r, .l] n (laws_eqIntS_Q0 x0 x1 x2) (CQ funcTab D n 60 [] [.r, .r, .l, .r, .l] (lastK funcTab 60))) a0 a1 := by kernel_rfl
  rw [h]
  simp only [laws_eqIntS_ELP0]
  rfl

end Go.G

/- G: functions of the program as told by V. No condition. Printed by a program of this session. -/
namespace Go.G
set_option linter.unusedVariables false
set_option maxRecDepth 100000
set_option maxHeartbeats 0
open Go Go.V
/- laws_markIntS -/
noncomputable def laws_markIntS_b0 (D : Den ctx) (n : Nat) (go : Int → Int → List Int → Option ((Int × Unit) × List Int × Unit)) (K0 : Int → List Int → Option ((Int × Unit) × List Int × Unit)) (x0 : Int) (x1 : Int) (x2 : List Int) : Option ((Int × Unit) × List Int × Unit) :=
  br (decide (x1 < (↑(List.length x2) : Int)))
    (br (decide (0 ≤ x1) && decide (x1 < (↑(List.length x2) : Int)))
      (go (IntKind.wrap IntKind.i64 (x0 + 1)) (IntKind.wrap IntKind.i64 (x1 + 1)) (List.set x2 (Int.toNat x1) x0)) none)
    (K0 x0 x2)
noncomputable def laws_markIntS_L0 (D : Den ctx) (n : Nat) (K0 : Int → List Int → Option ((Int × Unit) × List Int × Unit)) : Nat → (Int) → (Int) → (List Int) → Option ((Int × Unit) × List Int × Unit)
  | 0 => (fun x0 x1 x2 => none)
  | m + 1 => (fun x0 x1 x2 => laws_markIntS_b0 D n (laws_markIntS_L0 D n K0 m) K0 x0 x1 x2)
noncomputable def laws_markIntS_x0_0 (D : Den ctx) (n : Nat) (v0_0 : Int) (v0_1 : List Int) : Option ((Int × Unit) × List Int × Unit) :=
  some ((v0_0, ()), v0_1, ())
noncomputable def laws_markIntS_LP0 (D : Den ctx) (n : Nat) : (Int) → (Int) → (List Int) → Option ((Int × Unit) × List Int × Unit) :=
  (fun x0 x1 x2 => laws_markIntS_L0 D n (fun v0_0 v0_1 => laws_markIntS_x0_0 D n v0_0 v0_1) n x0 x1 x2)
noncomputable def laws_markIntS_e (D : Den ctx) (n : Nat) (lp0 : Int → Int → List Int → Option ((Int × Unit) × List Int × Unit)) (a0 : List Int) (a1 : Int) : Option ((Int × Unit) × List Int × Unit) :=
  lp0 a1 0 a0
noncomputable def F_laws_markIntS (D : Den ctx) (n : Nat) (a0 : List Int) (a1 : Int) : Option ((Int × Unit) × List Int × Unit) := laws_markIntS_e D n (laws_markIntS_LP0 D n) a0 a1
def laws_markIntS_Q0 (x0 : Int) (x1 : Int) (x2 : List Int) : St :=
  stq 19 [(0, AV.brw 0 [] 1048576), (1, AV.val (Ty.int IntKind.i64) x0), (5, AV.val (Ty.int IntKind.i64) x1)] [(0, Root.mk (Ty.sl (Ty.int IntKind.i64)) (Mk.own 1048576 Mk.no) x2 false)]
def laws_markIntS_Q0_0 (v0_0 : Int) (v0_1 : List Int) : St :=
  stq 19 [(0, AV.brw 0 [] 1048576), (1, AV.val (Ty.int IntKind.i64) v0_0)] [(0, Root.mk (Ty.sl (Ty.int IntKind.i64)) (Mk.own 1048576 Mk.no) v0_1 false)]
theorem laws_markIntS_SB0 (D : Den ctx) (n : Nat) (m : Nat) (K : Ex → St → Option (Out ctx 62)) (x0 : Int) (x1 : Int) (x2 : List Int) :
  LQ funcTab D n 62 [.r, .l, .r, .l] (m + 1) (laws_markIntS_Q0 x0 x1 x2) K = laws_markIntS_b0 D n (fun x0 x1 x2 => LQ funcTab D n 62 [.r, .l, .r, .l] m (laws_markIntS_Q0 x0 x1 x2) K) (fun v0_0 v0_1 => K (Ex.exit 0) (laws_markIntS_Q0_0 v0_0 v0_1)) x0 x1 x2 := by kernel_rfl
theorem laws_markIntS_EL0 (D : Den ctx) (n : Nat) (K : Ex → St → Option (Out ctx 62)) : ∀ (m : Nat) (x0 : Int) (x1 : Int) (x2 : List Int), LQ funcTab D n 62 [.r, .l, .r, .l] m (laws_markIntS_Q0 x0 x1 x2) K = laws_markIntS_L0 D n (fun v0_0 v0_1 => K (Ex.exit 0) (laws_markIntS_Q0_0 v0_0 v0_1)) m x0 x1 x2
  | 0, x0, x1, x2 => LQ_zero ..
  | m + 1, x0, x1, x2 => by
    have ih : (fun x0 x1 x2 => LQ funcTab D n 62 [.r, .l, .r, .l] m (laws_markIntS_Q0 x0 x1 x2) K) = laws_markIntS_L0 D n (fun v0_0 v0_1 => K (Ex.exit 0) (laws_markIntS_Q0_0 v0_0 v0_1)) m := by funext x0 x1 x2; exact laws_markIntS_EL0 D n K m x0 x1 x2
    rw [laws_markIntS_SB0]
    rw [ih]; rfl
theorem laws_markIntS_X0_0 (D : Den ctx) (n : Nat) (v0_0 : Int) (v0_1 : List Int) :
  (CQ funcTab D n 62 [] [.r, .l, .r, .l] (lastK funcTab 62)) (Ex.exit 0) (laws_markIntS_Q0_0 v0_0 v0_1) = laws_markIntS_x0_0 D n v0_0 v0_1 := by kernel_rfl
theorem laws_markIntS_ELP0 (D : Den ctx) (n : Nat) (x0 : Int) (x1 : Int) (x2 : List Int) :
  LQ funcTab D n 62 [.r, .l, .r, .l] n (laws_markIntS_Q0 x0 x1 x2) (CQ funcTab D n 62 [] [.r, .l, .r, .l] (lastK funcTab 62)) = laws_markIntS_LP0 D n x0 x1 x2 := by
  rw [laws_markIntS_EL0]
  simp only [laws_markIntS_X0_0]
  rfl
theorem E_laws_markIntS (D : Den ctx) (n : Nat) (a0 : List Int) (a1 : Int) : rfC funcTab D n 62 (a0, (a1, ())) = F_laws_markIntS D n a0 a1 := by
  have h : rfC funcTab D n 62 (a0, (a1, ())) = laws_markIntS_e D n (fun x0 x1 x2 => LQ funcTab D n 62 [.r, .l, .r, .l] n (laws_markIntS_Q0 x0 x1 x2) (CQ funcTab D n 62 [] [.r, .l, .r, .l] (lastK funcTab 62))) a0 a1 := by kernel_rfl
  rw [h]
  simp only [laws_markIntS_ELP0]
  rfl

end Go.G

/- G: functions of the program as told by V. No condition. Printed by a program of this session. -/
namespace Go.G
set_option linter.unusedVariables false
set_option maxRecDepth 100000
set_option maxHeartbeats 0
open Go Go.V
/- laws_heldIntS -/
noncomputable def laws_heldIntS_b0 (D : Den ctx) (n : Nat) (go : List Int → Int → Int → Option ((Int × Unit) × Unit)) (K0 : Int → Int → Option ((Int × Unit) × Unit)) (K1 : Int → Option ((Int × Unit) × Unit)) (x0 : List Int) (x1 : Int) (x2 : Int) : Option ((Int × Unit) × Unit) :=
  br (decide (x2 < (↑(List.length x0) : Int)))
    (br (decide (0 ≤ x2) && decide (x2 < (↑(List.length x0) : Int)))
      (br (List.getD x0 (Int.toNat x2) 0 != x1) (K0 x1 (-1)) (go x0 (IntKind.wrap IntKind.i64 (x1 + 1)) (IntKind.wrap IntKind.i64 (x2 + 1)))) none)
    (K1 x1)
noncomputable def laws_heldIntS_L0 (D : Den ctx) (n : Nat) (K0 : Int → Int → Option ((Int × Unit) × Unit)) (K1 : Int → Option ((Int × Unit) × Unit)) : Nat → (List Int) → (Int) → (Int) → Option ((Int × Unit) × Unit)
  | 0 => (fun x0 x1 x2 => none)
  | m + 1 => (fun x0 x1 x2 => laws_heldIntS_b0 D n (laws_heldIntS_L0 D n K0 K1 m) K0 K1 x0 x1 x2)
noncomputable def laws_heldIntS_x0_0 (D : Den ctx) (n : Nat) (v0_0 : Int) (v0_1 : Int) : Option ((Int × Unit) × Unit) :=
  some ((v0_1, ()), ())
noncomputable def laws_heldIntS_x0_1 (D : Den ctx) (n : Nat) (v1_0 : Int) : Option ((Int × Unit) × Unit) :=
  some ((v1_0, ()), ())
noncomputable def laws_heldIntS_LP0 (D : Den ctx) (n : Nat) : (List Int) → (Int) → (Int) → Option ((Int × Unit) × Unit) :=
  (fun x0 x1 x2 => laws_heldIntS_L0 D n (fun v0_0 v0_1 => laws_heldIntS_x0_0 D n v0_0 v0_1) (fun v1_0 => laws_heldIntS_x0_1 D n v1_0) n x0 x1 x2)
noncomputable def laws_heldIntS_e (D : Den ctx) (n : Nat) (lp0 : List Int → Int → Int → Option ((Int × Unit) × Unit)) (a0 : List Int) (a1 : Int) : Option ((Int × Unit) × Unit) :=
  lp0 a0 a1 0
noncomputable def F_laws_heldIntS (D : Den ctx) (n : Nat) (a0 : List Int) (a1 : Int) : Option ((Int × Unit) × Unit) := laws_heldIntS_e D n (laws_heldIntS_LP0 D n) a0 a1
def laws_heldIntS_Q0 (x0 : List Int) (x1 : Int) (x2 : Int) : St :=
  stq 21 [(0, AV.val (Ty.sl (Ty.int IntKind.i64)) x0), (1, AV.val (Ty.int IntKind.i64) x1), (5, AV.val (Ty.int IntKind.i64) x2)] []
def laws_heldIntS_Q0_0 (v0_0 : Int) (v0_1 : Int) : St :=
  stq 21 [(1, AV.val (Ty.int IntKind.i64) v0_0), (4, AV.val (Ty.int IntKind.i64) v0_1)] []
def laws_heldIntS_Q0_1 (v1_0 : Int) : St :=
  stq 21 [(1, AV.val (Ty.int IntKind.i64) v1_0)] []
theorem laws_heldIntS_SB0 (D : Den ctx) (n : Nat) (m : Nat) (K : Ex → St → Option (Out ctx 64)) (x0 : List Int) (x1 : Int) (x2 : Int) :
  LQ funcTab D n 64 [.r, .l, .r, .l] (m + 1) (laws_heldIntS_Q0 x0 x1 x2) K = laws_heldIntS_b0 D n (fun x0 x1 x2 => LQ funcTab D n 64 [.r, .l, .r, .l] m (laws_heldIntS_Q0 x0 x1 x2) K) (fun v0_0 v0_1 => K (Ex.ret) (laws_heldIntS_Q0_0 v0_0 v0_1)) (fun v1_0 => K (Ex.exit 0) (laws_heldIntS_Q0_1 v1_0)) x0 x1 x2 := by kernel_rfl
theorem laws_heldIntS_EL0 (D : Den ctx) (n : Nat) (K : Ex → St → Option (Out ctx 64)) : ∀ (m : Nat) (x0 : List Int) (x1 : Int) (x2 : Int), LQ funcTab D n 64 [.r, .l, .r, .l] m (laws_heldIntS_Q0 x0 x1 x2) K = laws_heldIntS_L0 D n (fun v0_0 v0_1 => K (Ex.ret) (laws_heldIntS_Q0_0 v0_0 v0_1)) (fun v1_0 => K (Ex.exit 0) (laws_heldIntS_Q0_1 v1_0)) m x0 x1 x2
  | 0, x0, x1, x2 => LQ_zero ..
  | m + 1, x0, x1, x2 => by
    have ih : (fun x0 x1 x2 => LQ funcTab D n 64 [.r, .l, .r, .l] m (laws_heldIntS_Q0 x0 x1 x2) K) = laws_heldIntS_L0 D n (fun v0_0 v0_1 => K (Ex.ret) (laws_heldIntS_Q0_0 v0_0 v0_1)) (fun v1_0 => K (Ex.exit 0) (laws_heldIntS_Q0_1 v1_0)) m := by funext x0 x1 x2; exact laws_heldIntS_EL0 D n K m x0 x1 x2
    rw [laws_heldIntS_SB0]
    rw [ih]; rfl
theorem laws_heldIntS_X0_0 (D : Den ctx) (n : Nat) (v0_0 : Int) (v0_1 : Int) :
  (CQ funcTab D n 64 [] [.r, .l, .r, .l] (lastK funcTab 64)) (Ex.ret) (laws_heldIntS_Q0_0 v0_0 v0_1) = laws_heldIntS_x0_0 D n v0_0 v0_1 := by kernel_rfl
theorem laws_heldIntS_X0_1 (D : Den ctx) (n : Nat) (v1_0 : Int) :
  (CQ funcTab D n 64 [] [.r, .l, .r, .l] (lastK funcTab 64)) (Ex.exit 0) (laws_heldIntS_Q0_1 v1_0) = laws_heldIntS_x0_1 D n v1_0 := by kernel_rfl
theorem laws_heldIntS_ELP0 (D : Den ctx) (n : Nat) (x0 : List Int) (x1 : Int) (x2 : Int) :
  LQ funcTab D n 64 [.r, .l, .r, .l] n (laws_heldIntS_Q0 x0 x1 x2) (CQ funcTab D n 64 [] [.r, .l, .r, .l] (lastK funcTab 64)) = laws_heldIntS_LP0 D n x0 x1 x2 := by
  rw [laws_heldIntS_EL0]
  simp only [laws_heldIntS_X0_0, laws_heldIntS_X0_1]
  rfl
theorem E_laws_heldIntS (D : Den ctx) (n : Nat) (a0 : List Int) (a1 : Int) : rfC funcTab D n 64 (a0, (a1, ())) = F_laws_heldIntS D n a0 a1 := by
  have h : rfC funcTab D n 64 (a0, (a1, ())) = laws_heldIntS_e D n (fun x0 x1 x2 => LQ funcTab D n 64 [.r, .l, .r, .l] n (laws_heldIntS_Q0 x0 x1 x2) (CQ funcTab D n 64 [] [.r, .l, .r, .l] (lastK funcTab 64))) a0 a1 := by kernel_rfl
  rw [h]
  simp only [laws_heldIntS_ELP0]
  rfl

end Go.G

/- G: functions of the program as told by V. No condition. Printed by a program of this session. -/
namespace Go.G
set_option linter.unusedVariables false
set_option maxRecDepth 100000
set_option maxHeartbeats 0
open Go Go.V
/- slices_DeleteFunc_impl_Way_impl_Way -/
noncomputable def slices_DeleteFunc_impl_Way_impl_Way_b0 (D : Den ctx) (n : Nat) (a1 : Clo) (go : Int → Int → List (ByteArray × ByteArray × Unit) → Option ((List (ByteArray × ByteArray × Unit) × Unit) × Unit)) (K0 : Int → List (ByteArray × ByteArray × Unit) → Option ((List (ByteArray × ByteArray × Unit) × Unit) × Unit)) (x0 : Int) (x1 : Int) (x2 : List (ByteArray × ByteArray × Unit)) : Option ((List (ByteArray × ByteArray × Unit) × Unit) × Unit) :=
  br (decide (x1 < (↑(List.length x2) : Int)))
    (br (decide (0 ≤ x1) && decide (x1 < (↑(List.length x2) : Int)))
      (bindD
        (applyClo ctx D a1 [CapV.val (Ty.pair Ty.str (Ty.pair Ty.str Ty.unit)) (List.getD x2 (Int.toNat x1) (ByteArray.empty, ByteArray.empty, ()))]
          Ty.bool)
        fun b ↦
        br (!b)
          (br (decide (0 ≤ x0) && decide (x0 < (↑(List.length x2) : Int)))
            (go (IntKind.wrap IntKind.i64 (x0 + 1)) (IntKind.wrap IntKind.i64 (x1 + 1))
              (List.set x2 (Int.toNat x0) (List.getD x2 (Int.toNat x1) (ByteArray.empty, ByteArray.empty, ()))))
            none)
          (go x0 (IntKind.wrap IntKind.i64 (x1 + 1)) x2))
      none)
    (K0 x0 x2)
noncomputable def slices_DeleteFunc_impl_Way_impl_Way_L0 (D : Den ctx) (n : Nat) (a1 : Clo) (K0 : Int → List (ByteArray × ByteArray × Unit) → Option ((List (ByteArray × ByteArray × Unit) × Unit) × Unit)) : Nat → (Int) → (Int) → (List (ByteArray × ByteArray × Unit)) → Option ((List (ByteArray × ByteArray × Unit) × Unit) × Unit)
  | 0 => (fun x0 x1 x2 => none)
  | m + 1 => (fun x0 x1 x2 => slices_DeleteFunc_impl_Way_impl_Way_b0 D n a1 (slices_DeleteFunc_impl_Way_impl_Way_L0 D n a1 K0 m) K0 x0 x1 x2)
noncomputable def slices_DeleteFunc_impl_Way_impl_Way_x0_0 (D : Den ctx) (n : Nat) (a1 : Clo) (v0_0 : Int) (v0_1 : List (ByteArray × ByteArray × Unit)) : Option ((List (ByteArray × ByteArray × Unit) × Unit) × Unit) :=
  br (decide (0 ≤ v0_0) && decide (v0_0 ≤ (↑(List.length v0_1) : Int)))
    (br (decide (Int.toNat v0_0 < List.length v0_1))
      (br
        (decide (0 ≤ v0_0) &&
          decide (v0_0 ≤ (↑(List.length (zeroed (Ty.pair Ty.str (Ty.pair Ty.str Ty.unit)) v0_1 (Int.toNat v0_0) (List.length v0_1))) : Int)))
        (some ((List.take (Int.toNat v0_0) (zeroed (Ty.pair Ty.str (Ty.pair Ty.str Ty.unit)) v0_1 (Int.toNat v0_0) (List.length v0_1)), ()), ())) none)
      (br (decide (0 ≤ v0_0) && decide (v0_0 ≤ (↑(List.length v0_1) : Int))) (some ((List.take (Int.toNat v0_0) v0_1, ()), ())) none))
    none
noncomputable def slices_DeleteFunc_impl_Way_impl_Way_LP0 (D : Den ctx) (n : Nat) (a1 : Clo) : (Int) → (Int) → (List (ByteArray × ByteArray × Unit)) → Option ((List (ByteArray × ByteArray × Unit) × Unit) × Unit) :=
  (fun x0 x1 x2 => slices_DeleteFunc_impl_Way_impl_Way_L0 D n a1 (fun v0_0 v0_1 => slices_DeleteFunc_impl_Way_impl_Way_x0_0 D n a1 v0_0 v0_1) n x0 x1 x2)
noncomputable def slices_DeleteFunc_impl_Way_impl_Way_e (D : Den ctx) (n : Nat) (a1 : Clo) (lp0 : Int → Int → List (ByteArray × ByteArray × Unit) → Option ((List (ByteArray × ByteArray × Unit) × Unit) × Unit)) (a0 : List (ByteArray × ByteArray × Unit)) : Option ((List (ByteArray × ByteArray × Unit) × Unit) × Unit) :=
  bindD (C_slices_IndexFunc_impl_Way_impl_Way D a0 a1) fun b ↦
    br (decide (Prod.fst (Prod.fst b) = -1)) (some ((a0, ()), ()))
      (lp0 (Prod.fst (Prod.fst b)) (IntKind.wrap IntKind.i64 (Prod.fst (Prod.fst b) + 1)) a0)
noncomputable def F_slices_DeleteFunc_impl_Way_impl_Way (D : Den ctx) (n : Nat) (a0 : List (ByteArray × ByteArray × Unit)) (a1 : Clo) : Option ((List (ByteArray × ByteArray × Unit) × Unit) × Unit) := slices_DeleteFunc_impl_Way_impl_Way_e D n a1 (slices_DeleteFunc_impl_Way_impl_Way_LP0 D n a1) a0
def slices_DeleteFunc_impl_Way_impl_Way_Q0 (a1 : Clo) (x0 : Int) (x1 : Int) (x2 : List (ByteArray × ByteArray × Unit)) : St :=
  stq 42 [(0, AV.brw 0 [] 0), (1, AV.cloV a1), (5, AV.val (Ty.int IntKind.i64) x0), (6, AV.val (Ty.int IntKind.i64) x1)] [(0, Root.mk (Ty.sl (Ty.pair Ty.str (Ty.pair Ty.str Ty.unit))) (Mk.own 0 (Mk.pr Mk.no (Mk.pr Mk.no Mk.no))) x2 false)]
def slices_DeleteFunc_impl_Way_impl_Way_Q0_0 (a1 : Clo) (v0_0 : Int) (v0_1 : List (ByteArray × ByteArray × Unit)) : St :=
  stq 42 [(0, AV.brw 0 [] 0), (5, AV.val (Ty.int IntKind.i64) v0_0)] [(0, Root.mk (Ty.sl (Ty.pair Ty.str (Ty.pair Ty.str Ty.unit))) (Mk.own 0 (Mk.pr Mk.no (Mk.pr Mk.no Mk.no))) v0_1 false)]
theorem slices_DeleteFunc_impl_Way_impl_Way_SB0 (D : Den ctx) (n : Nat) (a1 : Clo) (m : Nat) (K : Ex → St → Option (Out ctx 66)) (x0 : Int) (x1 : Int) (x2 : List (ByteArray × ByteArray × Unit)) :
  LQ funcTab D n 66 [.r, .r, .r, .l, .r, .l] (m + 1) (slices_DeleteFunc_impl_Way_impl_Way_Q0 a1 x0 x1 x2) K = slices_DeleteFunc_impl_Way_impl_Way_b0 D n a1 (fun x0 x1 x2 => LQ funcTab D n 66 [.r, .r, .r, .l, .r, .l] m (slices_DeleteFunc_impl_Way_impl_Way_Q0 a1 x0 x1 x2) K) (fun v0_0 v0_1 => K (Ex.exit 0) (slices_DeleteFunc_impl_Way_impl_Way_Q0_0 a1 v0_0 v0_1)) x0 x1 x2 := by kernel_rfl
theorem slices_DeleteFunc_impl_Way_impl_Way_EL0 (D : Den ctx) (n : Nat) (a1 : Clo) (K : Ex → St → Option (Out ctx 66)) : ∀ (m : Nat) (x0 : Int) (x1 : Int) (x2 : List (ByteArray × ByteArray × Unit)), LQ funcTab D n 66 [.r, .r, .r, .l, .r, .l] m (slices_DeleteFunc_impl_Way_impl_Way_Q0 a1 x0 x1 x2) K = slices_DeleteFunc_impl_Way_impl_Way_L0 D n a1 (fun v0_0 v0_1 => K (Ex.exit 0) (slices_DeleteFunc_impl_Way_impl_Way_Q0_0 a1 v0_0 v0_1)) m x0 x1 x2
  | 0, x0, x1, x2 => LQ_zero ..
  | m + 1, x0, x1, x2 => by
    have ih : (fun x0 x1 x2 => LQ funcTab D n 66 [.r, .r, .r, .l, .r, .l] m (slices_DeleteFunc_impl_Way_impl_Way_Q0 a1 x0 x1 x2) K) = slices_DeleteFunc_impl_Way_impl_Way_L0 D n a1 (fun v0_0 v0_1 => K (Ex.exit 0) (slices_DeleteFunc_impl_Way_impl_Way_Q0_0 a1 v0_0 v0_1)) m := by funext x0 x1 x2; exact slices_DeleteFunc_impl_Way_impl_Way_EL0 D n a1 K m x0 x1 x2
    rw [slices_DeleteFunc_impl_Way_impl_Way_SB0]
    rw [ih]; rfl
theorem slices_DeleteFunc_impl_Way_impl_Way_X0_0 (D : Den ctx) (n : Nat) (a1 : Clo) (v0_0 : Int) (v0_1 : List (ByteArray × ByteArray × Unit)) :
  (CQ funcTab D n 66 [] [.r, .r, .r, .l, .r, .l] (lastK funcTab 66)) (Ex.exit 0) (slices_DeleteFunc_impl_Way_impl_Way_Q0_0 a1 v0_0 v0_1) = slices_DeleteFunc_impl_Way_impl_Way_x0_0 D n a1 v0_0 v0_1 := by kernel_rfl
theorem slices_DeleteFunc_impl_Way_impl_Way_ELP0 (D : Den ctx) (n : Nat) (a1 : Clo) (x0 : Int) (x1 : Int) (x2 : List (ByteArray × ByteArray × Unit)) :
  LQ funcTab D n 66 [.r, .r, .r, .l, .r, .l] n (slices_DeleteFunc_impl_Way_impl_Way_Q0 a1 x0 x1 x2) (CQ funcTab D n 66 [] [.r, .r, .r, .l, .r, .l] (lastK funcTab 66)) = slices_DeleteFunc_impl_Way_impl_Way_LP0 D n a1 x0 x1 x2 := by
  rw [slices_DeleteFunc_impl_Way_impl_Way_EL0]
  simp only [slices_DeleteFunc_impl_Way_impl_Way_X0_0]
  rfl
theorem E_slices_DeleteFunc_impl_Way_impl_Way (D : Den ctx) (n : Nat) (a0 : List (ByteArray × ByteArray × Unit)) (a1 : Clo) : rfC funcTab D n 66 (a0, (a1, ())) = F_slices_DeleteFunc_impl_Way_impl_Way D n a0 a1 := by
  have h : rfC funcTab D n 66 (a0, (a1, ())) = slices_DeleteFunc_impl_Way_impl_Way_e D n a1 (fun x0 x1 x2 => LQ funcTab D n 66 [.r, .r, .r, .l, .r, .l] n (slices_DeleteFunc_impl_Way_impl_Way_Q0 a1 x0 x1 x2) (CQ funcTab D n 66 [] [.r, .r, .r, .l, .r, .l] (lastK funcTab 66))) a0 := by kernel_rfl
  rw [h]
  simp only [slices_DeleteFunc_impl_Way_impl_Way_ELP0]
  rfl

end Go.G

/- G: functions of the program as told by V. No condition. Printed by a program of this session. -/
namespace Go.G
set_option linter.unusedVariables false
set_option maxRecDepth 100000
set_option maxHeartbeats 0
open Go Go.V
/- slices_Clone_impl_Way_impl_Way -/
noncomputable def slices_Clone_impl_Way_impl_Way_e (D : Den ctx) (n : Nat) (a0 : List (ByteArray × ByteArray × Unit)) : Option ((List (ByteArray × ByteArray × Unit) × Unit) × Unit) :=
  br (decide (Int.toNat (↑(List.length a0) : Int) = 0))
    (both (some (([], ()), ())) (br (decide (0 + List.length a0 ≤ bound)) (some (([] ++ a0, ()), ())) none))
    (br (decide (0 + List.length a0 ≤ bound)) (some (([] ++ a0, ()), ())) none)
noncomputable def F_slices_Clone_impl_Way_impl_Way (D : Den ctx) (n : Nat) (a0 : List (ByteArray × ByteArray × Unit)) : Option ((List (ByteArray × ByteArray × Unit) × Unit) × Unit) := slices_Clone_impl_Way_impl_Way_e D n a0
theorem E_slices_Clone_impl_Way_impl_Way (D : Den ctx) (n : Nat) (a0 : List (ByteArray × ByteArray × Unit)) : rfC funcTab D n 67 (a0, ()) = F_slices_Clone_impl_Way_impl_Way D n a0 := by kernel_rfl

end Go.G

/- G: functions of the program as told by V. No condition. Printed by a program of this session. -/
namespace Go.G
set_option linter.unusedVariables false
set_option maxRecDepth 100000
set_option maxHeartbeats 0
open Go Go.V
/- impl_WayDel_1 -/
noncomputable def impl_WayDel_1_e (D : Den ctx) (n : Nat) (a0 : ByteArray × ByteArray × Unit) (a1 : ByteArray × ByteArray × Unit) : Option ((Bool × Unit) × Unit) :=
  some ((eqDen (Ty.pair Ty.str (Ty.pair Ty.str Ty.unit)) a0 a1, ()), ())
noncomputable def F_impl_WayDel_1 (D : Den ctx) (n : Nat) (a0 : ByteArray × ByteArray × Unit) (a1 : ByteArray × ByteArray × Unit) : Option ((Bool × Unit) × Unit) := impl_WayDel_1_e D n a0 a1
theorem E_impl_WayDel_1 (D : Den ctx) (n : Nat) (a0 : ByteArray × ByteArray × Unit) (a1 : ByteArray × ByteArray × Unit) : rfC funcTab D n 68 (a0, (a1, ())) = F_impl_WayDel_1 D n a0 a1 := by kernel_rfl

end Go.G

/- G: functions of the program as told by V. No condition. Printed by a program of this session. -/
namespace Go.G
set_option linter.unusedVariables false
set_option maxRecDepth 100000
set_option maxHeartbeats 0
open Go Go.V
/- laws_eqWay -/
noncomputable def laws_eqWay_e (D : Den ctx) (n : Nat) (a0 : ByteArray × ByteArray × Unit) (a1 : ByteArray × ByteArray × Unit) : Option ((Bool × Unit) × Unit) :=
  br (!List.beq (ByteArray.toList (Prod.fst a0)) (ByteArray.toList (Prod.fst a1))) (some ((false, ()), ()))
    (br (!List.beq (ByteArray.toList (Prod.fst (Prod.snd a0))) (ByteArray.toList (Prod.fst (Prod.snd a1)))) (some ((false, ()), ()))
      (some ((true, ()), ())))
noncomputable def F_laws_eqWay (D : Den ctx) (n : Nat) (a0 : ByteArray × ByteArray × Unit) (a1 : ByteArray × ByteArray × Unit) : Option ((Bool × Unit) × Unit) := laws_eqWay_e D n a0 a1
theorem E_laws_eqWay (D : Den ctx) (n : Nat) (a0 : ByteArray × ByteArray × Unit) (a1 : ByteArray × ByteArray × Unit) : rfC funcTab D n 69 (a0, (a1, ())) = F_laws_eqWay D n a0 a1 := by kernel_rfl

end Go.G

/- G: functions of the program as told by V. No condition. Printed by a program of this session. -/
namespace Go.G
set_option linter.unusedVariables false
set_option maxRecDepth 100000
set_option maxHeartbeats 0
open Go Go.V
/- laws_markText -/
noncomputable def laws_markText_b0 (D : Den ctx) (n : Nat) (go : Int → ByteArray → Option ((ByteArray × Unit) × Unit)) (K0 : ByteArray → Option ((ByteArray × Unit) × Unit)) (x0 : Int) (x1 : ByteArray) : Option ((ByteArray × Unit) × Unit) :=
  br (decide (x0 > 0))
    (br
      (decide
        (ByteArray.size
              (ByteArray.mk
                (List.toArray
                  (List.map (fun n ↦ UInt8.ofNat (Int.toNat n)) [IntKind.wrap IntKind.u8 (IntKind.wrap IntKind.i64 (48 + Int.tmod x0 10))]))) +
            ByteArray.size x1 ≤
          Nat.pow 2 47))
      (go (IntKind.wrap IntKind.i64 (Int.tdiv x0 10))
        (ByteArray.append
          (ByteArray.mk
            (List.toArray (List.map (fun n ↦ UInt8.ofNat (Int.toNat n)) [IntKind.wrap IntKind.u8 (IntKind.wrap IntKind.i64 (48 + Int.tmod x0 10))])))
          x1))
      none)
    (K0 x1)
noncomputable def laws_markText_L0 (D : Den ctx) (n : Nat) (K0 : ByteArray → Option ((ByteArray × Unit) × Unit)) : Nat → (Int) → (ByteArray) → Option ((ByteArray × Unit) × Unit)
  | 0 => (fun x0 x1 => none)
  | m + 1 => (fun x0 x1 => laws_markText_b0 D n (laws_markText_L0 D n K0 m) K0 x0 x1)
noncomputable def laws_markText_x0_0 (D : Den ctx) (n : Nat) (v0_0 : ByteArray) : Option ((ByteArray × Unit) × Unit) :=
  br (decide (ByteArray.size (ByteArray.mk #[UInt8.ofNat 109]) + ByteArray.size v0_0 ≤ Nat.pow 2 47))
    (some ((ByteArray.append (ByteArray.mk #[UInt8.ofNat 109]) v0_0, ()), ())) none
noncomputable def laws_markText_LP0 (D : Den ctx) (n : Nat) : (Int) → (ByteArray) → Option ((ByteArray × Unit) × Unit) :=
  (fun x0 x1 => laws_markText_L0 D n (fun v0_0 => laws_markText_x0_0 D n v0_0) n x0 x1)
noncomputable def laws_markText_e (D : Den ctx) (n : Nat) (lp0 : Int → ByteArray → Option ((ByteArray × Unit) × Unit)) (a0 : Int) : Option ((ByteArray × Unit) × Unit) :=
  br (decide (a0 ≤ 0)) (some ((ByteArray.mk #[UInt8.ofNat 109, UInt8.ofNat 48], ()), ())) (lp0 a0 (ByteArray.mk #[]))
noncomputable def F_laws_markText (D : Den ctx) (n : Nat) (a0 : Int) : Option ((ByteArray × Unit) × Unit) := laws_markText_e D n (laws_markText_LP0 D n) a0
def laws_markText_Q0 (x0 : Int) (x1 : ByteArray) : St :=
  stq 20 [(0, AV.val (Ty.int IntKind.i64) x0), (3, AV.val Ty.str x1)] []
def laws_markText_Q0_0 (v0_0 : ByteArray) : St :=
  stq 20 [(3, AV.val Ty.str v0_0)] []
theorem laws_markText_SB0 (D : Den ctx) (n : Nat) (m : Nat) (K : Ex → St → Option (Out ctx 70)) (x0 : Int) (x1 : ByteArray) :
  LQ funcTab D n 70 [.r, .r, .r, .l, .l] (m + 1) (laws_markText_Q0 x0 x1) K = laws_markText_b0 D n (fun x0 x1 => LQ funcTab D n 70 [.r, .r, .r, .l, .l] m (laws_markText_Q0 x0 x1) K) (fun v0_0 => K (Ex.exit 0) (laws_markText_Q0_0 v0_0)) x0 x1 := by kernel_rfl
theorem laws_markText_EL0 (D : Den ctx) (n : Nat) (K : Ex → St → Option (Out ctx 70)) : ∀ (m : Nat) (x0 : Int) (x1 : ByteArray), LQ funcTab D n 70 [.r, .r, .r, .l, .l] m (laws_markText_Q0 x0 x1) K = laws_markText_L0 D n (fun v0_0 => K (Ex.exit 0) (laws_markText_Q0_0 v0_0)) m x0 x1
  | 0, x0, x1 => LQ_zero ..
  | m + 1, x0, x1 => by
    have ih : (fun x0 x1 => LQ funcTab D n 70 [.r, .r, .r, .l, .l] m (laws_markText_Q0 x0 x1) K) = laws_markText_L0 D n (fun v0_0 => K (Ex.exit 0) (laws_markText_Q0_0 v0_0)) m := by funext x0 x1; exact laws_markText_EL0 D n K m x0 x1
    rw [laws_markText_SB0]
    rw [ih]; rfl
theorem laws_markText_X0_0 (D : Den ctx) (n : Nat) (v0_0 : ByteArray) :
  (CQ funcTab D n 70 [] [.r, .r, .r, .l, .l] (lastK funcTab 70)) (Ex.exit 0) (laws_markText_Q0_0 v0_0) = laws_markText_x0_0 D n v0_0 := by kernel_rfl
theorem laws_markText_ELP0 (D : Den ctx) (n : Nat) (x0 : Int) (x1 : ByteArray) :
  LQ funcTab D n 70 [.r, .r, .r, .l, .l] n (laws_markText_Q0 x0 x1) (CQ funcTab D n 70 [] [.r, .r, .r, .l, .l] (lastK funcTab 70)) = laws_markText_LP0 D n x0 x1 := by
  rw [laws_markText_EL0]
  simp only [laws_markText_X0_0]
  rfl
theorem E_laws_markText (D : Den ctx) (n : Nat) (a0 : Int) : rfC funcTab D n 70 (a0, ()) = F_laws_markText D n a0 := by
  have h : rfC funcTab D n 70 (a0, ()) = laws_markText_e D n (fun x0 x1 => LQ funcTab D n 70 [.r, .r, .r, .l, .l] n (laws_markText_Q0 x0 x1) (CQ funcTab D n 70 [] [.r, .r, .r, .l, .l] (lastK funcTab 70))) a0 := by kernel_rfl
  rw [h]
  simp only [laws_markText_ELP0]
  rfl

end Go.G

/- G: functions of the program as told by V. No condition. Printed by a program of this session. -/
namespace Go.G
set_option linter.unusedVariables false
set_option maxRecDepth 100000
set_option maxHeartbeats 0
open Go Go.V
/- laws_szIntS -/
noncomputable def laws_szIntS_e (D : Den ctx) (n : Nat) (a0 : List Int) (a1 : Int) : Option ((Int × Unit) × Unit) :=
  br (decide (IntKind.wrap IntKind.i64 (a1 - (↑(List.length a0) : Int)) < 0)) (some ((-1, ()), ()))
    (some ((IntKind.wrap IntKind.i64 (a1 - (↑(List.length a0) : Int)), ()), ()))
noncomputable def F_laws_szIntS (D : Den ctx) (n : Nat) (a0 : List Int) (a1 : Int) : Option ((Int × Unit) × Unit) := laws_szIntS_e D n a0 a1
theorem E_laws_szIntS (D : Den ctx) (n : Nat) (a0 : List Int) (a1 : Int) : rfC funcTab D n 77 (a0, (a1, ())) = F_laws_szIntS D n a0 a1 := by kernel_rfl

end Go.G

/- G: functions of the program as told by V. No condition. Printed by a program of this session. -/
namespace Go.G
set_option linter.unusedVariables false
set_option maxRecDepth 100000
set_option maxHeartbeats 0
open Go Go.V
/- laws_toIntS -/
noncomputable def laws_toIntS_b0 (D : Den ctx) (n : Nat) (go : List Int → Int → List Int → Option ((List Int × Unit) × Unit)) (K0 : List Int → Option ((List Int × Unit) × Unit)) (x0 : List Int) (x1 : Int) (x2 : List Int) : Option ((List Int × Unit) × Unit) :=
  br (decide (x1 < (↑(List.length x0) : Int)))
    (br (decide (0 ≤ x1) && decide (x1 < (↑(List.length x0) : Int)))
      (br (decide (0 ≤ x1) && decide (x1 < (↑(List.length x2) : Int)))
        (go x0 (IntKind.wrap IntKind.i64 (x1 + 1)) (List.set x2 (Int.toNat x1) (List.getD x0 (Int.toNat x1) 0))) none)
      none)
    (K0 x2)
noncomputable def laws_toIntS_L0 (D : Den ctx) (n : Nat) (K0 : List Int → Option ((List Int × Unit) × Unit)) : Nat → (List Int) → (Int) → (List Int) → Option ((List Int × Unit) × Unit)
  | 0 => (fun x0 x1 x2 => none)
  | m + 1 => (fun x0 x1 x2 => laws_toIntS_b0 D n (laws_toIntS_L0 D n K0 m) K0 x0 x1 x2)
noncomputable def laws_toIntS_x0_0 (D : Den ctx) (n : Nat) (v0_0 : List Int) : Option ((List Int × Unit) × Unit) :=
  some ((v0_0, ()), ())
noncomputable def laws_toIntS_LP0 (D : Den ctx) (n : Nat) : (List Int) → (Int) → (List Int) → Option ((List Int × Unit) × Unit) :=
  (fun x0 x1 x2 => laws_toIntS_L0 D n (fun v0_0 => laws_toIntS_x0_0 D n v0_0) n x0 x1 x2)
noncomputable def laws_toIntS_e (D : Den ctx) (n : Nat) (lp0 : List Int → Int → List Int → Option ((List Int × Unit) × Unit)) (a0 : List Int) : Option ((List Int × Unit) × Unit) :=
  br
    (decide (0 ≤ (↑(List.length a0) : Int)) && decide ((↑(List.length a0) : Int) ≤ (↑(List.length a0) : Int)) &&
      decide ((↑(List.length a0) : Int) ≤ (↑bound : Int)))
    (lp0 a0 0 (List.replicate (Int.toNat (↑(List.length a0) : Int)) 0)) none
noncomputable def F_laws_toIntS (D : Den ctx) (n : Nat) (a0 : List Int) : Option ((List Int × Unit) × Unit) := laws_toIntS_e D n (laws_toIntS_LP0 D n) a0
def laws_toIntS_Q0 (x0 : List Int) (x1 : Int) (x2 : List Int) : St :=
  stq 22 [(0, AV.val (Ty.sl (Ty.int IntKind.i64)) x0), (3, AV.brw 3 [] 0), (4, AV.val (Ty.int IntKind.i64) x1)] [(3, Root.mk (Ty.sl (Ty.int IntKind.i64)) (Mk.own 0 Mk.no) x2 false)]
def laws_toIntS_Q0_0 (v0_0 : List Int) : St :=
  stq 22 [(3, AV.brw 3 [] 0)] [(3, Root.mk (Ty.sl (Ty.int IntKind.i64)) (Mk.own 0 Mk.no) v0_0 false)]
theorem laws_toIntS_SB0 (D : Den ctx) (n : Nat) (m : Nat) (K : Ex → St → Option (Out ctx 81)) (x0 : List Int) (x1 : Int) (x2 : List Int) :
  LQ funcTab D n 81 [.r, .r, .l, .r, .l] (m + 1) (laws_toIntS_Q0 x0 x1 x2) K = laws_toIntS_b0 D n (fun x0 x1 x2 => LQ funcTab D n 81 [.r, .r, .l, .r, .l] m (laws_toIntS_Q0 x0 x1 x2) K) (fun v0_0 => K (Ex.exit 0) (laws_toIntS_Q0_0 v0_0)) x0 x1 x2 := by kernel_rfl
theorem laws_toIntS_EL0 (D : Den ctx) (n : Nat) (K : Ex → St → Option (Out ctx 81)) : ∀ (m : Nat) (x0 : List Int) (x1 : Int) (x2 : List Int), LQ funcTab D n 81 [.r, .r, .l, .r, .l] m (laws_toIntS_Q0 x0 x1 x2) K = laws_toIntS_L0 D n (fun v0_0 => K (Ex.exit 0) (laws_toIntS_Q0_0 v0_0)) m x0 x1 x2
  | 0, x0, x1, x2 => LQ_zero ..
  | m + 1, x0, x1, x2 => by
    have ih : (fun x0 x1 x2 => LQ funcTab D n 81 [.r, .r, .l, .r, .l] m (laws_toIntS_Q0 x0 x1 x2) K) = laws_toIntS_L0 D n (fun v0_0 => K (Ex.exit 0) (laws_toIntS_Q0_0 v0_0)) m := by funext x0 x1 x2; exact laws_toIntS_EL0 D n K m x0 x1 x2
    rw [laws_toIntS_SB0]
    rw [ih]; rfl
theorem laws_toIntS_X0_0 (D : Den ctx) (n : Nat) (v0_0 : List Int) :
  (CQ funcTab D n 81 [] [.r, .r, .l, .r, .l] (lastK funcTab 81)) (Ex.exit 0) (laws_toIntS_Q0_0 v0_0) = laws_toIntS_x0_0 D n v0_0 := by kernel_rfl
theorem laws_toIntS_ELP0 (D : Den ctx) (n : Nat) (x0 : List Int) (x1 : Int) (x2 : List Int) :
  LQ funcTab D n 81 [.r, .r, .l, .r, .l] n (laws_toIntS_Q0 x0 x1 x2) (CQ funcTab D n 81 [] [.r, .r, .l, .r, .l] (lastK funcTab 81)) = laws_toIntS_LP0 D n x0 x1 x2 := by
  rw [laws_toIntS_EL0]
  simp only [laws_toIntS_X0_0]
  rfl
theorem E_laws_toIntS (D : Den ctx) (n : Nat) (a0 : List Int) : rfC funcTab D n 81 (a0, ()) = F_laws_toIntS D n a0 := by
  have h : rfC funcTab D n 81 (a0, ()) = laws_toIntS_e D n (fun x0 x1 x2 => LQ funcTab D n 81 [.r, .r, .l, .r, .l] n (laws_toIntS_Q0 x0 x1 x2) (CQ funcTab D n 81 [] [.r, .r, .l, .r, .l] (lastK funcTab 81))) a0 := by kernel_rfl
  rw [h]
  simp only [laws_toIntS_ELP0]
  rfl

end Go.G

/- G: functions of the program as told by V. No condition. Printed by a program of this session. -/
namespace Go.G
set_option linter.unusedVariables false
set_option maxRecDepth 100000
set_option maxHeartbeats 0
open Go Go.V
/- slices_IndexFunc_impl_Way_impl_Way -/
noncomputable def slices_IndexFunc_impl_Way_impl_Way_b0 (D : Den ctx) (n : Nat) (a1 : Clo) (go : List (ByteArray × ByteArray × Unit) → Int → Int → Option ((Int × Unit) × Unit)) (K0 : Int → Option ((Int × Unit) × Unit)) (K1 : Option ((Int × Unit) × Unit)) (x0 : List (ByteArray × ByteArray × Unit)) (x1 : Int) (x2 : Int) : Option ((Int × Unit) × Unit) :=
  br (decide (x2 < x1))
    (br (decide (0 ≤ x2) && decide (x2 < (↑(List.length x0) : Int)))
      (bindD
        (applyClo ctx D a1 [CapV.val (Ty.pair Ty.str (Ty.pair Ty.str Ty.unit)) (List.getD x0 (Int.toNat x2) (ByteArray.empty, ByteArray.empty, ()))]
          Ty.bool)
        fun b ↦ br b (K0 x2) (go x0 x1 (IntKind.wrap IntKind.i64 (x2 + 1))))
      none)
    K1
noncomputable def slices_IndexFunc_impl_Way_impl_Way_L0 (D : Den ctx) (n : Nat) (a1 : Clo) (K0 : Int → Option ((Int × Unit) × Unit)) (K1 : Option ((Int × Unit) × Unit)) : Nat → (List (ByteArray × ByteArray × Unit)) → (Int) → (Int) → Option ((Int × Unit) × Unit)
  | 0 => (fun x0 x1 x2 => none)
  | m + 1 => (fun x0 x1 x2 => slices_IndexFunc_impl_Way_impl_Way_b0 D n a1 (slices_IndexFunc_impl_Way_impl_Way_L0 D n a1 K0 K1 m) K0 K1 x0 x1 x2)
noncomputable def slices_IndexFunc_impl_Way_impl_Way_x0_0 (D : Den ctx) (n : Nat) (a1 : Clo) (v0_0 : Int) : Option ((Int × Unit) × Unit) :=
  some ((v0_0, ()), ())
noncomputable def slices_IndexFunc_impl_Way_impl_Way_x0_1 (D : Den ctx) (n : Nat) (a1 : Clo) : Option ((Int × Unit) × Unit) :=
  some ((-1, ()), ())
noncomputable def slices_IndexFunc_impl_Way_impl_Way_LP0 (D : Den ctx) (n : Nat) (a1 : Clo) : (List (ByteArray × ByteArray × Unit)) → (Int) → (Int) → Option ((Int × Unit) × Unit) :=
  (fun x0 x1 x2 => slices_IndexFunc_impl_Way_impl_Way_L0 D n a1 (fun v0_0 => slices_IndexFunc_impl_Way_impl_Way_x0_0 D n a1 v0_0) (slices_IndexFunc_impl_Way_impl_Way_x0_1 D n a1) n x0 x1 x2)
noncomputable def slices_IndexFunc_impl_Way_impl_Way_e (D : Den ctx) (n : Nat) (a1 : Clo) (lp0 : List (ByteArray × ByteArray × Unit) → Int → Int → Option ((Int × Unit) × Unit)) (a0 : List (ByteArray × ByteArray × Unit)) : Option ((Int × Unit) × Unit) :=
  lp0 a0 (↑(List.length a0) : Int) 0
noncomputable def F_slices_IndexFunc_impl_Way_impl_Way (D : Den ctx) (n : Nat) (a0 : List (ByteArray × ByteArray × Unit)) (a1 : Clo) : Option ((Int × Unit) × Unit) := slices_IndexFunc_impl_Way_impl_Way_e D n a1 (slices_IndexFunc_impl_Way_impl_Way_LP0 D n a1) a0
def slices_IndexFunc_impl_Way_impl_Way_Q0 (a1 : Clo) (x0 : List (ByteArray × ByteArray × Unit)) (x1 : Int) (x2 : Int) : St :=
  stq 19 [(0, AV.val (Ty.sl (Ty.pair Ty.str (Ty.pair Ty.str Ty.unit))) x0), (1, AV.cloV a1), (7, AV.val (Ty.int IntKind.i64) x1), (8, AV.val (Ty.int IntKind.i64) x2)] []
def slices_IndexFunc_impl_Way_impl_Way_Q0_0 (a1 : Clo) (v0_0 : Int) : St :=
  stq 19 [(4, AV.val (Ty.int IntKind.i64) v0_0)] []
def slices_IndexFunc_impl_Way_impl_Way_Q0_1 (a1 : Clo) : St :=
  stq 19 [] []
theorem slices_IndexFunc_impl_Way_impl_Way_SB0 (D : Den ctx) (n : Nat) (a1 : Clo) (m : Nat) (K : Ex → St → Option (Out ctx 84)) (x0 : List (ByteArray × ByteArray × Unit)) (x1 : Int) (x2 : Int) :
  LQ funcTab D n 84 [.r, .l, .r, .l] (m + 1) (slices_IndexFunc_impl_Way_impl_Way_Q0 a1 x0 x1 x2) K = slices_IndexFunc_impl_Way_impl_Way_b0 D n a1 (fun x0 x1 x2 => LQ funcTab D n 84 [.r, .l, .r, .l] m (slices_IndexFunc_impl_Way_impl_Way_Q0 a1 x0 x1 x2) K) (fun v0_0 => K (Ex.ret) (slices_IndexFunc_impl_Way_impl_Way_Q0_0 a1 v0_0)) (K (Ex.exit 0) (slices_IndexFunc_impl_Way_impl_Way_Q0_1 a1)) x0 x1 x2 := by kernel_rfl
theorem slices_IndexFunc_impl_Way_impl_Way_EL0 (D : Den ctx) (n : Nat) (a1 : Clo) (K : Ex → St → Option (Out ctx 84)) : ∀ (m : Nat) (x0 : List (ByteArray × ByteArray × Unit)) (x1 : Int) (x2 : Int), LQ funcTab D n 84 [.r, .l, .r, .l] m (slices_IndexFunc_impl_Way_impl_Way_Q0 a1 x0 x1 x2) K = slices_IndexFunc_impl_Way_impl_Way_L0 D n a1 (fun v0_0 => K (Ex.ret) (slices_IndexFunc_impl_Way_impl_Way_Q0_0 a1 v0_0)) (K (Ex.exit 0) (slices_IndexFunc_impl_Way_impl_Way_Q0_1 a1)) m x0 x1 x2
  | 0, x0, x1, x2 => LQ_zero ..
  | m + 1, x0, x1, x2 => by
    have ih : (fun x0 x1 x2 => LQ funcTab D n 84 [.r, .l, .r, .l] m (slices_IndexFunc_impl_Way_impl_Way_Q0 a1 x0 x1 x2) K) = slices_IndexFunc_impl_Way_impl_Way_L0 D n a1 (fun v0_0 => K (Ex.ret) (slices_IndexFunc_impl_Way_impl_Way_Q0_0 a1 v0_0)) (K (Ex.exit 0) (slices_IndexFunc_impl_Way_impl_Way_Q0_1 a1)) m := by funext x0 x1 x2; exact slices_IndexFunc_impl_Way_impl_Way_EL0 D n a1 K m x0 x1 x2
    rw [slices_IndexFunc_impl_Way_impl_Way_SB0]
    rw [ih]; rfl
theorem slices_IndexFunc_impl_Way_impl_Way_X0_0 (D : Den ctx) (n : Nat) (a1 : Clo) (v0_0 : Int) :
  (CQ funcTab D n 84 [] [.r, .l, .r, .l] (lastK funcTab 84)) (Ex.ret) (slices_IndexFunc_impl_Way_impl_Way_Q0_0 a1 v0_0) = slices_IndexFunc_impl_Way_impl_Way_x0_0 D n a1 v0_0 := by kernel_rfl
theorem slices_IndexFunc_impl_Way_impl_Way_X0_1 (D : Den ctx) (n : Nat) (a1 : Clo) :
  (CQ funcTab D n 84 [] [.r, .l, .r, .l] (lastK funcTab 84)) (Ex.exit 0) (slices_IndexFunc_impl_Way_impl_Way_Q0_1 a1) = slices_IndexFunc_impl_Way_impl_Way_x0_1 D n a1 := by kernel_rfl
theorem slices_IndexFunc_impl_Way_impl_Way_ELP0 (D : Den ctx) (n : Nat) (a1 : Clo) (x0 : List (ByteArray × ByteArray × Unit)) (x1 : Int) (x2 : Int) :
  LQ funcTab D n 84 [.r, .l, .r, .l] n (slices_IndexFunc_impl_Way_impl_Way_Q0 a1 x0 x1 x2) (CQ funcTab D n 84 [] [.r, .l, .r, .l] (lastK funcTab 84)) = slices_IndexFunc_impl_Way_impl_Way_LP0 D n a1 x0 x1 x2 := by
  rw [slices_IndexFunc_impl_Way_impl_Way_EL0]
  simp only [slices_IndexFunc_impl_Way_impl_Way_X0_0, slices_IndexFunc_impl_Way_impl_Way_X0_1]
  rfl
theorem E_slices_IndexFunc_impl_Way_impl_Way (D : Den ctx) (n : Nat) (a0 : List (ByteArray × ByteArray × Unit)) (a1 : Clo) : rfC funcTab D n 84 (a0, (a1, ())) = F_slices_IndexFunc_impl_Way_impl_Way D n a0 a1 := by
  have h : rfC funcTab D n 84 (a0, (a1, ())) = slices_IndexFunc_impl_Way_impl_Way_e D n a1 (fun x0 x1 x2 => LQ funcTab D n 84 [.r, .l, .r, .l] n (slices_IndexFunc_impl_Way_impl_Way_Q0 a1 x0 x1 x2) (CQ funcTab D n 84 [] [.r, .l, .r, .l] (lastK funcTab 84))) a0 := by kernel_rfl
  rw [h]
  simp only [slices_IndexFunc_impl_Way_impl_Way_ELP0]
  rfl

end Go.G

/- G: a function's denotation is its printed text. No condition. Printed by a program of this session. -/
namespace Go.G
set_option linter.unusedVariables false
set_option maxRecDepth 100000
open Go Go.V Go.Proofs
/-- the functions that are told by hand, if any -/
def XOk (X : Ext) : Prop := ∀ k : Nat, (Nat.beq k 55 || Nat.beq k 86 || Nat.beq k 87) = false → X.is k = false
theorem noExt_ok : XOk noExt := fun _ _ => rfl
theorem S_laws_FnExactWayDel {X : Ext} (hX : XOk X) (n : Nat) (a0 : List (ByteArray × ByteArray × Unit)) (a1 : ByteArray × ByteArray × Unit) : C_laws_FnExactWayDel (DD X (n + 1)) a0 a1 = F_laws_FnExactWayDel (DD X n) n a0 a1 := (DD_succ X Try.func6 (by kernel_rfl) (hX 6 rfl) n _).trans (E_laws_FnExactWayDel ..)
theorem S_laws_szWay {X : Ext} (hX : XOk X) (n : Nat) (a0 : ByteArray × ByteArray × Unit) (a1 : Int) : C_laws_szWay (DD X (n + 1)) a0 a1 = F_laws_szWay (DD X n) n a0 a1 := (DD_succ X Try.func16 (by kernel_rfl) (hX 16 rfl) n _).trans (E_laws_szWay ..)
theorem S_laws_toWay {X : Ext} (hX : XOk X) (n : Nat) (a0 : ByteArray × ByteArray × Unit) : C_laws_toWay (DD X (n + 1)) a0 = F_laws_toWay (DD X n) n a0 := (DD_succ X Try.func18 (by kernel_rfl) (hX 18 rfl) n _).trans (E_laws_toWay ..)
theorem S_laws_szWayS {X : Ext} (hX : XOk X) (n : Nat) (a0 : List (ByteArray × ByteArray × Unit)) (a1 : Int) : C_laws_szWayS (DD X (n + 1)) a0 a1 = F_laws_szWayS (DD X n) n a0 a1 := (DD_succ X Try.func27 (by kernel_rfl) (hX 27 rfl) n _).trans (E_laws_szWayS ..)
theorem S_spec_WayDel {X : Ext} (hX : XOk X) (n : Nat) (a0 : List (ByteArray × ByteArray × Unit)) (a1 : ByteArray × ByteArray × Unit) : C_spec_WayDel (DD X (n + 1)) a0 a1 = F_spec_WayDel (DD X n) n a0 a1 := (DD_succ X Try.func28 (by kernel_rfl) (hX 28 rfl) n _).trans (E_spec_WayDel ..)
theorem S_laws_toWayS {X : Ext} (hX : XOk X) (n : Nat) (a0 : List (ByteArray × ByteArray × Unit)) : C_laws_toWayS (DD X (n + 1)) a0 = F_laws_toWayS (DD X n) n a0 := (DD_succ X Try.func29 (by kernel_rfl) (hX 29 rfl) n _).trans (E_laws_toWayS ..)
theorem S_impl_WayDel {X : Ext} (hX : XOk X) (n : Nat) (a0 : List (ByteArray × ByteArray × Unit)) (a1 : ByteArray × ByteArray × Unit) : C_impl_WayDel (DD X (n + 1)) a0 a1 = F_impl_WayDel (DD X n) n a0 a1 := (DD_succ X Try.func30 (by kernel_rfl) (hX 30 rfl) n _).trans (E_impl_WayDel ..)
theorem S_laws_eqWayS {X : Ext} (hX : XOk X) (n : Nat) (a0 : List (ByteArray × ByteArray × Unit)) (a1 : List (ByteArray × ByteArray × Unit)) : C_laws_eqWayS (DD X (n + 1)) a0 a1 = F_laws_eqWayS (DD X n) n a0 a1 := (DD_succ X Try.func31 (by kernel_rfl) (hX 31 rfl) n _).trans (E_laws_eqWayS ..)
theorem S_laws_markWayS {X : Ext} (hX : XOk X) (n : Nat) (a0 : List (ByteArray × ByteArray × Unit)) (a1 : Int) : C_laws_markWayS (DD X (n + 1)) a0 a1 = F_laws_markWayS (DD X n) n a0 a1 := (DD_succ X Try.func32 (by kernel_rfl) (hX 32 rfl) n _).trans (E_laws_markWayS ..)
theorem S_laws_heldWayS {X : Ext} (hX : XOk X) (n : Nat) (a0 : List (ByteArray × ByteArray × Unit)) (a1 : Int) : C_laws_heldWayS (DD X (n + 1)) a0 a1 = F_laws_heldWayS (DD X n) n a0 a1 := (DD_succ X Try.func33 (by kernel_rfl) (hX 33 rfl) n _).trans (E_laws_heldWayS ..)
theorem S_laws_eqIntS {X : Ext} (hX : XOk X) (n : Nat) (a0 : List Int) (a1 : List Int) : C_laws_eqIntS (DD X (n + 1)) a0 a1 = F_laws_eqIntS (DD X n) n a0 a1 := (DD_succ X Try.func60 (by kernel_rfl) (hX 60 rfl) n _).trans (E_laws_eqIntS ..)
theorem S_laws_markIntS {X : Ext} (hX : XOk X) (n : Nat) (a0 : List Int) (a1 : Int) : C_laws_markIntS (DD X (n + 1)) a0 a1 = F_laws_markIntS (DD X n) n a0 a1 := (DD_succ X Try.func62 (by kernel_rfl) (hX 62 rfl) n _).trans (E_laws_markIntS ..)
theorem S_laws_heldIntS {X : Ext} (hX : XOk X) (n : Nat) (a0 : List Int) (a1 : Int) : C_laws_heldIntS (DD X (n + 1)) a0 a1 = F_laws_heldIntS (DD X n) n a0 a1 := (DD_succ X Try.func64 (by kernel_rfl) (hX 64 rfl) n _).trans (E_laws_heldIntS ..)
theorem S_slices_DeleteFunc_impl_Way_impl_Way {X : Ext} (hX : XOk X) (n : Nat) (a0 : List (ByteArray × ByteArray × Unit)) (a1 : Clo) : C_slices_DeleteFunc_impl_Way_impl_Way (DD X (n + 1)) a0 a1 = F_slices_DeleteFunc_impl_Way_impl_Way (DD X n) n a0 a1 := (DD_succ X Try.func66 (by kernel_rfl) (hX 66 rfl) n _).trans (E_slices_DeleteFunc_impl_Way_impl_Way ..)
theorem S_slices_Clone_impl_Way_impl_Way {X : Ext} (hX : XOk X) (n : Nat) (a0 : List (ByteArray × ByteArray × Unit)) : C_slices_Clone_impl_Way_impl_Way (DD X (n + 1)) a0 = F_slices_Clone_impl_Way_impl_Way (DD X n) n a0 := (DD_succ X Try.func67 (by kernel_rfl) (hX 67 rfl) n _).trans (E_slices_Clone_impl_Way_impl_Way ..)
theorem S_impl_WayDel_1 {X : Ext} (hX : XOk X) (n : Nat) (a0 : ByteArray × ByteArray × Unit) (a1 : ByteArray × ByteArray × Unit) : C_impl_WayDel_1 (DD X (n + 1)) a0 a1 = F_impl_WayDel_1 (DD X n) n a0 a1 := (DD_succ X Try.func68 (by kernel_rfl) (hX 68 rfl) n _).trans (E_impl_WayDel_1 ..)
theorem S_laws_eqWay {X : Ext} (hX : XOk X) (n : Nat) (a0 : ByteArray × ByteArray × Unit) (a1 : ByteArray × ByteArray × Unit) : C_laws_eqWay (DD X (n + 1)) a0 a1 = F_laws_eqWay (DD X n) n a0 a1 := (DD_succ X Try.func69 (by kernel_rfl) (hX 69 rfl) n _).trans (E_laws_eqWay ..)
theorem S_laws_markText {X : Ext} (hX : XOk X) (n : Nat) (a0 : Int) : C_laws_markText (DD X (n + 1)) a0 = F_laws_markText (DD X n) n a0 := (DD_succ X Try.func70 (by kernel_rfl) (hX 70 rfl) n _).trans (E_laws_markText ..)
theorem S_laws_szIntS {X : Ext} (hX : XOk X) (n : Nat) (a0 : List Int) (a1 : Int) : C_laws_szIntS (DD X (n + 1)) a0 a1 = F_laws_szIntS (DD X n) n a0 a1 := (DD_succ X Try.func77 (by kernel_rfl) (hX 77 rfl) n _).trans (E_laws_szIntS ..)
theorem S_laws_toIntS {X : Ext} (hX : XOk X) (n : Nat) (a0 : List Int) : C_laws_toIntS (DD X (n + 1)) a0 = F_laws_toIntS (DD X n) n a0 := (DD_succ X Try.func81 (by kernel_rfl) (hX 81 rfl) n _).trans (E_laws_toIntS ..)
theorem S_slices_IndexFunc_impl_Way_impl_Way {X : Ext} (hX : XOk X) (n : Nat) (a0 : List (ByteArray × ByteArray × Unit)) (a1 : Clo) : C_slices_IndexFunc_impl_Way_impl_Way (DD X (n + 1)) a0 a1 = F_slices_IndexFunc_impl_Way_impl_Way (DD X n) n a0 a1 := (DD_succ X Try.func84 (by kernel_rfl) (hX 84 rfl) n _).trans (E_slices_IndexFunc_impl_Way_impl_Way ..)
end Go.G


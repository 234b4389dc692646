import Derived.Test.YtjjcilkcffigeaaAV3
/- G: calls, in short. No condition. Printed by a program of this session. -/
namespace Go.G
open Go Go.V
noncomputable def C_laws_FnExactSkipNew (D : Den ctx) : Option ((Bool × Unit) × Unit) := D 5 ()
noncomputable def C_spec_SkipNew (D : Den ctx) : Option (((List Int × List (ByteArray × List Int × Unit) × Unit) × Unit) × Unit) := D 22 ()
noncomputable def C_impl_SkipNew (D : Den ctx) : Option (((List Int × List (ByteArray × List Int × Unit) × Unit) × Unit) × Unit) := D 23 ()
noncomputable def C_laws_eqSkip (D : Den ctx) (a0 : List Int × List (ByteArray × List Int × Unit) × Unit) (a1 : List Int × List (ByteArray × List Int × Unit) × Unit) : Option ((Bool × Unit) × Unit) := D 24 (a0, (a1, ()))
noncomputable def C_laws_markSkip (D : Den ctx) (a0 : List Int × List (ByteArray × List Int × Unit) × Unit) (a1 : Int) : Option ((Int × Unit) × (List Int × List (ByteArray × List Int × Unit) × Unit) × Unit) := D 25 (a0, (a1, ()))
noncomputable def C_laws_heldSkip (D : Den ctx) (a0 : List Int × List (ByteArray × List Int × Unit) × Unit) (a1 : Int) : Option ((Int × Unit) × Unit) := D 26 (a0, (a1, ()))
noncomputable def C_laws_szSkip (D : Den ctx) (a0 : List Int × List (ByteArray × List Int × Unit) × Unit) (a1 : Int) : Option ((Int × Unit) × Unit) := D 37 (a0, (a1, ()))
noncomputable def C_laws_toSkip (D : Den ctx) (a0 : List Int × List (ByteArray × List Int × Unit) × Unit) : Option (((List Int × List (ByteArray × List Int × Unit) × Unit) × Unit) × Unit) := D 39 (a0, ())
noncomputable def C_laws_eqIntS (D : Den ctx) (a0 : List Int) (a1 : List Int) : Option ((Bool × Unit) × Unit) := D 60 (a0, (a1, ()))
noncomputable def C_laws_eqLaneS (D : Den ctx) (a0 : List (ByteArray × List Int × Unit)) (a1 : List (ByteArray × List Int × Unit)) : Option ((Bool × Unit) × Unit) := D 61 (a0, (a1, ()))
noncomputable def C_laws_markIntS (D : Den ctx) (a0 : List Int) (a1 : Int) : Option ((Int × Unit) × List Int × Unit) := D 62 (a0, (a1, ()))
noncomputable def C_laws_markLaneS (D : Den ctx) (a0 : List (ByteArray × List Int × Unit)) (a1 : Int) : Option ((Int × Unit) × List (ByteArray × List Int × Unit) × Unit) := D 63 (a0, (a1, ()))
noncomputable def C_laws_heldIntS (D : Den ctx) (a0 : List Int) (a1 : Int) : Option ((Int × Unit) × Unit) := D 64 (a0, (a1, ()))
noncomputable def C_laws_heldLaneS (D : Den ctx) (a0 : List (ByteArray × List Int × Unit)) (a1 : Int) : Option ((Int × Unit) × Unit) := D 65 (a0, (a1, ()))
noncomputable def C_laws_markText (D : Den ctx) (a0 : Int) : Option ((ByteArray × Unit) × Unit) := D 70 (a0, ())
noncomputable def C_laws_szIntS (D : Den ctx) (a0 : List Int) (a1 : Int) : Option ((Int × Unit) × Unit) := D 77 (a0, (a1, ()))
noncomputable def C_laws_szLaneS (D : Den ctx) (a0 : List (ByteArray × List Int × Unit)) (a1 : Int) : Option ((Int × Unit) × Unit) := D 78 (a0, (a1, ()))
noncomputable def C_laws_toIntS (D : Den ctx) (a0 : List Int) : Option ((List Int × Unit) × Unit) := D 81 (a0, ())
noncomputable def C_laws_toLaneS (D : Den ctx) (a0 : List (ByteArray × List Int × Unit)) : Option ((List (ByteArray × List Int × Unit) × Unit) × Unit) := D 82 (a0, ())
noncomputable def C_laws_eqLane (D : Den ctx) (a0 : ByteArray × List Int × Unit) (a1 : ByteArray × List Int × Unit) : Option ((Bool × Unit) × Unit) := D 94 (a0, (a1, ()))
noncomputable def C_laws_szLane (D : Den ctx) (a0 : ByteArray × List Int × Unit) (a1 : Int) : Option ((Int × Unit) × Unit) := D 97 (a0, (a1, ()))
noncomputable def C_laws_toLane (D : Den ctx) (a0 : ByteArray × List Int × Unit) : Option (((ByteArray × List Int × Unit) × Unit) × Unit) := D 100 (a0, ())

end Go.G

/- G: functions of the program as told by V. No condition. Printed by a program of this session. -/
namespace Go.G
set_option linter.unusedVariables false
set_option maxRecDepth 100000
set_option maxHeartbeats 0
open Go Go.V
/- laws_FnExactSkipNew -/
noncomputable def laws_FnExactSkipNew_e (D : Den ctx) (n : Nat) : Option ((Bool × Unit) × Unit) :=
  bindD (C_spec_SkipNew D) fun b ↦
    bindD (C_impl_SkipNew D) fun b_1 ↦
      bindD
        (C_laws_eqSkip D (Prod.fst (Prod.fst (Prod.fst b_1)), Prod.fst (Prod.snd (Prod.fst (Prod.fst b_1))), ())
          (Prod.fst (Prod.fst (Prod.fst b)), Prod.fst (Prod.snd (Prod.fst (Prod.fst b))), ()))
        fun b_2 ↦
        br (!Prod.fst (Prod.fst b_2)) (some ((false, ()), ()))
          (bindD (C_laws_markSkip D (Prod.fst (Prod.fst (Prod.fst b_1)), Prod.fst (Prod.snd (Prod.fst (Prod.fst b_1))), ()) 1) fun b_3 ↦
            bindD (C_laws_heldSkip D (Prod.fst (Prod.fst (Prod.snd b_3)), Prod.fst (Prod.snd (Prod.fst (Prod.snd b_3))), ()) 1) fun b_4 ↦
              br (decide (Prod.fst (Prod.fst b_4) < 0)) (some ((false, ()), ()))
                (br (Prod.fst (Prod.fst b_4) != Prod.fst (Prod.fst b_3)) (some ((false, ()), ()))
                  (bindD (C_impl_SkipNew D) fun b_5 ↦
                    bindD
                      (C_laws_eqSkip D (Prod.fst (Prod.fst (Prod.fst b_5)), Prod.fst (Prod.snd (Prod.fst (Prod.fst b_5))), ())
                        (Prod.fst (Prod.fst (Prod.fst b)), Prod.fst (Prod.snd (Prod.fst (Prod.fst b))), ()))
                      fun b ↦
                      br (!Prod.fst (Prod.fst b)) (some ((false, ()), ()))
                        (bindD (C_laws_heldSkip D (Prod.fst (Prod.fst (Prod.snd b_3)), Prod.fst (Prod.snd (Prod.fst (Prod.snd b_3))), ()) 1) fun b ↦
                          br (decide (Prod.fst (Prod.fst b) < 0)) (some ((false, ()), ()))
                            (br (Prod.fst (Prod.fst b) != Prod.fst (Prod.fst b_3)) (some ((false, ()), ())) (some ((true, ()), ())))))))
noncomputable def F_laws_FnExactSkipNew (D : Den ctx) (n : Nat) : Option ((Bool × Unit) × Unit) := laws_FnExactSkipNew_e D n
theorem E_laws_FnExactSkipNew (D : Den ctx) (n : Nat) : rfC funcTab D n 5 () = F_laws_FnExactSkipNew D n := by kernel_rfl

end Go.G

/- G: functions of the program as told by V. No condition. Printed by a program of this session. -/
namespace Go.G
set_option linter.unusedVariables false
set_option maxRecDepth 100000
set_option maxHeartbeats 0
open Go Go.V
/- spec_SkipNew -/
noncomputable def spec_SkipNew_e (D : Den ctx) (n : Nat) : Option (((List Int × List (ByteArray × List Int × Unit) × Unit) × Unit) × Unit) :=
  some ((([-1, -1, -1, -1], [], ()), ()), ())
noncomputable def F_spec_SkipNew (D : Den ctx) (n : Nat) : Option (((List Int × List (ByteArray × List Int × Unit) × Unit) × Unit) × Unit) := spec_SkipNew_e D n
theorem E_spec_SkipNew (D : Den ctx) (n : Nat) : rfC funcTab D n 22 () = F_spec_SkipNew D n := by kernel_rfl

end Go.G

/- G: functions of the program as told by V. No condition. Printed by a program of this session. -/
namespace Go.G
set_option linter.unusedVariables false
set_option maxRecDepth 100000
set_option maxHeartbeats 0
open Go Go.V
/- impl_SkipNew -/
noncomputable def impl_SkipNew_e (D : Den ctx) (n : Nat) : Option (((List Int × List (ByteArray × List Int × Unit) × Unit) × Unit) × Unit) :=
  some ((([-1, -1, -1, -1], [], ()), ()), ())
noncomputable def F_impl_SkipNew (D : Den ctx) (n : Nat) : Option (((List Int × List (ByteArray × List Int × Unit) × Unit) × Unit) × Unit) := impl_SkipNew_e D n
theorem E_impl_SkipNew (D : Den ctx) (n : Nat) : rfC funcTab D n 23 () = F_impl_SkipNew D n := by kernel_rfl

end Go.G

/- G: functions of the program as told by V. No condition. Printed by a program of this session. -/
namespace Go.G
set_option linter.unusedVariables false
set_option maxRecDepth 100000
set_option maxHeartbeats 0
open Go Go.V
/- laws_eqSkip -/
noncomputable def laws_eqSkip_e (D : Den ctx) (n : Nat) (a0 : List Int × List (ByteArray × List Int × Unit) × Unit) (a1 : List Int × List (ByteArray × List Int × Unit) × Unit) : Option ((Bool × Unit) × Unit) :=
  bindD (C_laws_eqIntS D (Prod.fst a0) (Prod.fst a1)) fun b ↦
    br (!Prod.fst (Prod.fst b)) (some ((false, ()), ()))
      (bindD (C_laws_eqLaneS D (Prod.fst (Prod.snd a0)) (Prod.fst (Prod.snd a1))) fun b ↦
        br (!Prod.fst (Prod.fst b)) (some ((false, ()), ())) (some ((true, ()), ())))
noncomputable def F_laws_eqSkip (D : Den ctx) (n : Nat) (a0 : List Int × List (ByteArray × List Int × Unit) × Unit) (a1 : List Int × List (ByteArray × List Int × Unit) × Unit) : Option ((Bool × Unit) × Unit) := laws_eqSkip_e D n a0 a1
theorem E_laws_eqSkip (D : Den ctx) (n : Nat) (a0 : List Int × List (ByteArray × List Int × Unit) × Unit) (a1 : List Int × List (ByteArray × List Int × Unit) × Unit) : rfC funcTab D n 24 (a0, (a1, ())) = F_laws_eqSkip D n a0 a1 := by kernel_rfl

end Go.G

/- G: functions of the program as told by V. No condition. Printed by a program of this session. -/
namespace Go.G
set_option linter.unusedVariables false
set_option maxRecDepth 100000
set_option maxHeartbeats 0
open Go Go.V
/- laws_markSkip -/
noncomputable def laws_markSkip_e (D : Den ctx) (n : Nat) (a0 : List Int × List (ByteArray × List Int × Unit) × Unit) (a1 : Int) : Option ((Int × Unit) × (List Int × List (ByteArray × List Int × Unit) × Unit) × Unit) :=
  bindD (C_laws_markIntS D (Prod.fst a0) a1) fun b ↦
    bindD (C_laws_markLaneS D (Prod.fst (Prod.snd a0)) (Prod.fst (Prod.fst b))) fun b_1 ↦
      some ((Prod.fst (Prod.fst b_1), ()), (Prod.fst (Prod.snd b), Prod.fst (Prod.snd b_1), ()), ())
noncomputable def F_laws_markSkip (D : Den ctx) (n : Nat) (a0 : List Int × List (ByteArray × List Int × Unit) × Unit) (a1 : Int) : Option ((Int × Unit) × (List Int × List (ByteArray × List Int × Unit) × Unit) × Unit) := laws_markSkip_e D n a0 a1
theorem E_laws_markSkip (D : Den ctx) (n : Nat) (a0 : List Int × List (ByteArray × List Int × Unit) × Unit) (a1 : Int) : rfC funcTab D n 25 (a0, (a1, ())) = F_laws_markSkip D n a0 a1 := by kernel_rfl

end Go.G

/- G: functions of the program as told by V. No condition. Printed by a program of this session. -/
namespace Go.G
set_option linter.unusedVariables false
set_option maxRecDepth 100000
set_option maxHeartbeats 0
open Go Go.V
/- laws_heldSkip -/
noncomputable def laws_heldSkip_e (D : Den ctx) (n : Nat) (a0 : List Int × List (ByteArray × List Int × Unit) × Unit) (a1 : Int) : Option ((Int × Unit) × Unit) :=
  bindD (C_laws_heldIntS D (Prod.fst a0) a1) fun b ↦
    br (decide (Prod.fst (Prod.fst b) < 0)) (some ((-1, ()), ()))
      (bindD (C_laws_heldLaneS D (Prod.fst (Prod.snd a0)) (Prod.fst (Prod.fst b))) fun b ↦
        br (decide (Prod.fst (Prod.fst b) < 0)) (some ((-1, ()), ())) (some ((Prod.fst (Prod.fst b), ()), ())))
noncomputable def F_laws_heldSkip (D : Den ctx) (n : Nat) (a0 : List Int × List (ByteArray × List Int × Unit) × Unit) (a1 : Int) : Option ((Int × Unit) × Unit) := laws_heldSkip_e D n a0 a1
theorem E_laws_heldSkip (D : Den ctx) (n : Nat) (a0 : List Int × List (ByteArray × List Int × Unit) × Unit) (a1 : Int) : rfC funcTab D n 26 (a0, (a1, ())) = F_laws_heldSkip D n a0 a1 := by kernel_rfl

end Go.G

/- G: functions of the program as told by V. No condition. Printed by a program of this session. -/
namespace Go.G
set_option linter.unusedVariables false
set_option maxRecDepth 100000
set_option maxHeartbeats 0
open Go Go.V
/- laws_szSkip -/
noncomputable def laws_szSkip_e (D : Den ctx) (n : Nat) (a0 : List Int × List (ByteArray × List Int × Unit) × Unit) (a1 : Int) : Option ((Int × Unit) × Unit) :=
  bindD (C_laws_szIntS D (Prod.fst a0) a1) fun b ↦
    br (decide (Prod.fst (Prod.fst b) < 0)) (some ((-1, ()), ()))
      (bindD (C_laws_szLaneS D (Prod.fst (Prod.snd a0)) (Prod.fst (Prod.fst b))) fun b ↦
        br (decide (Prod.fst (Prod.fst b) < 0)) (some ((-1, ()), ())) (some ((Prod.fst (Prod.fst b), ()), ())))
noncomputable def F_laws_szSkip (D : Den ctx) (n : Nat) (a0 : List Int × List (ByteArray × List Int × Unit) × Unit) (a1 : Int) : Option ((Int × Unit) × Unit) := laws_szSkip_e D n a0 a1
theorem E_laws_szSkip (D : Den ctx) (n : Nat) (a0 : List Int × List (ByteArray × List Int × Unit) × Unit) (a1 : Int) : rfC funcTab D n 37 (a0, (a1, ())) = F_laws_szSkip D n a0 a1 := by kernel_rfl

end Go.G

/- G: functions of the program as told by V. No condition. Printed by a program of this session. -/
namespace Go.G
set_option linter.unusedVariables false
set_option maxRecDepth 100000
set_option maxHeartbeats 0
open Go Go.V
/- laws_toSkip -/
noncomputable def laws_toSkip_e (D : Den ctx) (n : Nat) (a0 : List Int × List (ByteArray × List Int × Unit) × Unit) : Option (((List Int × List (ByteArray × List Int × Unit) × Unit) × Unit) × Unit) :=
  bindD (C_laws_toIntS D (Prod.fst a0)) fun b ↦
    bindD (C_laws_toLaneS D (Prod.fst (Prod.snd a0))) fun b_1 ↦ some (((Prod.fst (Prod.fst b), Prod.fst (Prod.fst b_1), ()), ()), ())
noncomputable def F_laws_toSkip (D : Den ctx) (n : Nat) (a0 : List Int × List (ByteArray × List Int × Unit) × Unit) : Option (((List Int × List (ByteArray × List Int × Unit) × Unit) × Unit) × Unit) := laws_toSkip_e D n a0
theorem E_laws_toSkip (D : Den ctx) (n : Nat) (a0 : List Int × List (ByteArray × List Int × Unit) × Unit) : rfC funcTab D n 39 (a0, ()) = F_laws_toSkip D n a0 := by kernel_rfl

end Go.G

/- G: functions of the program as told by V. No condition. Printed by a program of this session. -/
namespace Go.G
set_option linter.unusedVariables false
set_option maxRecDepth 100000
set_option maxHeartbeats 0
open Go Go.V
/- laws_eqIntS -/
noncomputable def laws_eqIntS_b0 (D : Den ctx) (n : Nat) (go : List Int → List Int → Int → Option ((Bool × Unit) × Unit)) (K0 : Bool → Option ((Bool × Unit) × Unit)) (K1 : Option ((Bool × Unit) × Unit)) (x0 : List Int) (x1 : List Int) (x2 : Int) : Option ((Bool × Unit) × Unit) :=
  br (decide (x2 < (↑(List.length x0) : Int)))
    (br (decide (0 ≤ x2) && decide (x2 < (↑(List.length x0) : Int)))
      (br (decide (0 ≤ x2) && decide (x2 < (↑(List.length x1) : Int)))
        (br (List.getD x0 (Int.toNat x2) 0 != List.getD x1 (Int.toNat x2) 0) (K0 false) (go x0 x1 (IntKind.wrap IntKind.i64 (x2 + 1)))) none)
      none)
    K1
noncomputable def laws_eqIntS_L0 (D : Den ctx) (n : Nat) (K0 : Bool → Option ((Bool × Unit) × Unit)) (K1 : Option ((Bool × Unit) × Unit)) : Nat → (List Int) → (List Int) → (Int) → Option ((Bool × Unit) × Unit)
  | 0 => (fun x0 x1 x2 => none)
  | m + 1 => (fun x0 x1 x2 => laws_eqIntS_b0 D n (laws_eqIntS_L0 D n K0 K1 m) K0 K1 x0 x1 x2)
noncomputable def laws_eqIntS_x0_0 (D : Den ctx) (n : Nat) (v0_0 : Bool) : Option ((Bool × Unit) × Unit) :=
  some ((v0_0, ()), ())
noncomputable def laws_eqIntS_x0_1 (D : Den ctx) (n : Nat) : Option ((Bool × Unit) × Unit) :=
  some ((true, ()), ())
noncomputable def laws_eqIntS_LP0 (D : Den ctx) (n : Nat) : (List Int) → (List Int) → (Int) → Option ((Bool × Unit) × Unit) :=
  (fun x0 x1 x2 => laws_eqIntS_L0 D n (fun v0_0 => laws_eqIntS_x0_0 D n v0_0) (laws_eqIntS_x0_1 D n) n x0 x1 x2)
noncomputable def laws_eqIntS_e (D : Den ctx) (n : Nat) (lp0 : List Int → List Int → Int → Option ((Bool × Unit) × Unit)) (a0 : List Int) (a1 : List Int) : Option ((Bool × Unit) × Unit) :=
  br ((↑(List.length a0) : Int) != (↑(List.length a1) : Int)) (some ((false, ()), ())) (lp0 a0 a1 0)
noncomputable def F_laws_eqIntS (D : Den ctx) (n : Nat) (a0 : List Int) (a1 : List Int) : Option ((Bool × Unit) × Unit) := laws_eqIntS_e D n (laws_eqIntS_LP0 D n) a0 a1
def laws_eqIntS_Q0 (x0 : List Int) (x1 : List Int) (x2 : Int) : St :=
  stq 26 [(0, AV.val (Ty.sl (Ty.int IntKind.i64)) x0), (1, AV.val (Ty.sl (Ty.int IntKind.i64)) x1), (5, AV.val (Ty.int IntKind.i64) x2)] []
def laws_eqIntS_Q0_0 (v0_0 : Bool) : St :=
  stq 26 [(4, AV.val Ty.bool v0_0)] []
def laws_eqIntS_Q0_1 : St :=
  stq 26 [] []
theorem laws_eqIntS_SB0 (D : Den ctx) (n : Nat) (m : Nat) (K : Ex → St → Option (Out ctx 60)) (x0 : List Int) (x1 : List Int) (x2 : Int) :
  LQ funcTab D n 60 [.r, .r, .l, .r, .l] (m + 1) (laws_eqIntS_Q0 x0 x1 x2) K = laws_eqIntS_b0 D n (fun x0 x1 x2 => LQ funcTab D n 60 [.r, .r, .l, .r, .l] m (laws_eqIntS_Q0 x0 x1 x2) K) (fun v0_0 => K (Ex.ret) (laws_eqIntS_Q0_0 v0_0)) (K (Ex.exit 0) (laws_eqIntS_Q0_1)) x0 x1 x2 := by kernel_rfl
theorem laws_eqIntS_EL0 (D : Den ctx) (n : Nat) (K : Ex → St → Option (Out ctx 60)) : ∀ (m : Nat) (x0 : List Int) (x1 : List Int) (x2 : Int), LQ funcTab D n 60 [.r, .r, .l, .r, .l] m (laws_eqIntS_Q0 x0 x1 x2) K = laws_eqIntS_L0 D n (fun v0_0 => K (Ex.ret) (laws_eqIntS_Q0_0 v0_0)) (K (Ex.exit 0) (laws_eqIntS_Q0_1)) m x0 x1 x2
  | 0, x0, x1, x2 => LQ_zero ..
  | m + 1, x0, x1, x2 => by
    have ih : (fun x0 x1 x2 => LQ funcTab D n 60 [.r, .r, .l, .r, .l] m (laws_eqIntS_Q0 x0 x1 x2) K) = laws_eqIntS_L0 D n (fun v0_0 => K (Ex.ret) (laws_eqIntS_Q0_0 v0_0)) (K (Ex.exit 0) (laws_eqIntS_Q0_1)) m := by funext x0 x1 x2; exact laws_eqIntS_EL0 D n K m x0 x1 x2
    rw [laws_eqIntS_SB0]
    rw [ih]; rfl
theorem laws_eqIntS_X0_0 (D : Den ctx) (n : Nat) (v0_0 : Bool) :
  (CQ funcTab D n 60 [] [.r, .r, .l, .r, .l] (lastK funcTab 60)) (Ex.ret) (laws_eqIntS_Q0_0 v0_0) = laws_eqIntS_x0_0 D n v0_0 := by kernel_rfl
theorem laws_eqIntS_X0_1 (D : Den ctx) (n : Nat) :
  (CQ funcTab D n 60 [] [.r, .r, .l, .r, .l] (lastK funcTab 60)) (Ex.exit 0) (laws_eqIntS_Q0_1) = laws_eqIntS_x0_1 D n := by kernel_rfl
theorem laws_eqIntS_ELP0 (D : Den ctx) (n : Nat) (x0 : List Int) (x1 : List Int) (x2 : Int) :
  LQ funcTab D n 60 [.r, .r, .l, .r, .l] n (laws_eqIntS_Q0 x0 x1 x2) (CQ funcTab D n 60 [] [.r, .r, .l, .r, .l] (lastK funcTab 60)) = laws_eqIntS_LP0 D n x0 x1 x2 := by
  rw [laws_eqIntS_EL0]
  simp only [laws_eqIntS_X0_0, laws_eqIntS_X0_1]
  rfl
theorem E_laws_eqIntS (D : Den ctx) (n : Nat) (a0 : List Int) (a1 : List Int) : rfC funcTab D n 60 (a0, (a1, ())) = F_laws_eqIntS D n a0 a1 := by
  have h : rfC funcTab D n 60 (a0, (a1, ())) = laws_eqIntS_e D n (fun x0 x1 x2 => LQ funcTab D n 60 [.r, .r, .l, .r, .l] n (laws_eqIntS_Q0 x0 x1 x2) (CQ funcTab D n 60 [] [.r, .r, .l, .r, .l] (lastK funcTab 60))) a0 a1 := by kernel_rfl
  rw [h]
  simp only [laws_eqIntS_ELP0]
  rfl

end Go.G

/- G: functions of the program as told by V. No condition. Printed by a program of this session. -/
namespace Go.G
set_option linter.unusedVariables false
set_option maxRecDepth 100000
set_option maxHeartbeats 0
open Go Go.V
/- laws_eqLaneS -/
noncomputable def laws_eqLaneS_b0 (D : Den ctx) (n : Nat) (go : List (ByteArray × List Int × Unit) → List (ByteArray × List Int × Unit) → Int → Option ((Bool × Unit) × Unit)) (K0 : Bool → Option ((Bool × Unit) × Unit)) (K1 : Option ((Bool × Unit) × Unit)) (x0 : List (ByteArray × List Int × Unit)) (x1 : List (ByteArray × List Int × Unit)) (x2 : Int) : Option ((Bool × Unit) × Unit) :=
  br (decide (x2 < (↑(List.length x0) : Int)))
    (br (decide (0 ≤ x2) && decide (x2 < (↑(List.length x0) : Int)))
      (br (decide (0 ≤ x2) && decide (x2 < (↑(List.length x1) : Int)))
        (bindD (C_laws_eqLane D (List.getD x0 (Int.toNat x2) (ByteArray.empty, [], ())) (List.getD x1 (Int.toNat x2) (ByteArray.empty, [], ()))) fun b ↦
          br (!Prod.fst (Prod.fst b)) (K0 false) (go x0 x1 (IntKind.wrap IntKind.i64 (x2 + 1))))
        none)
      none)
    K1
noncomputable def laws_eqLaneS_L0 (D : Den ctx) (n : Nat) (K0 : Bool → Option ((Bool × Unit) × Unit)) (K1 : Option ((Bool × Unit) × Unit)) : Nat → (List (ByteArray × List Int × Unit)) → (List (ByteArray × List Int × Unit)) → (Int) → Option ((Bool × Unit) × Unit)
  | 0 => (fun x0 x1 x2 => none)
  | m + 1 => (fun x0 x1 x2 => laws_eqLaneS_b0 D n (laws_eqLaneS_L0 D n K0 K1 m) K0 K1 x0 x1 x2)
noncomputable def laws_eqLaneS_x0_0 (D : Den ctx) (n : Nat) (v0_0 : Bool) : Option ((Bool × Unit) × Unit) :=
  some ((v0_0, ()), ())
noncomputable def laws_eqLaneS_x0_1 (D : Den ctx) (n : Nat) : Option ((Bool × Unit) × Unit) :=
  some ((true, ()), ())
noncomputable def laws_eqLaneS_LP0 (D : Den ctx) (n : Nat) : (List (ByteArray × List Int × Unit)) → (List (ByteArray × List Int × Unit)) → (Int) → Option ((Bool × Unit) × Unit) :=
  (fun x0 x1 x2 => laws_eqLaneS_L0 D n (fun v0_0 => laws_eqLaneS_x0_0 D n v0_0) (laws_eqLaneS_x0_1 D n) n x0 x1 x2)
noncomputable def laws_eqLaneS_e (D : Den ctx) (n : Nat) (lp0 : List (ByteArray × List Int × Unit) → List (ByteArray × List Int × Unit) → Int → Option ((Bool × Unit) × Unit)) (a0 : List (ByteArray × List Int × Unit)) (a1 : List (ByteArray × List Int × Unit)) : Option ((Bool × Unit) × Unit) :=
  br ((↑(List.length a0) : Int) != (↑(List.length a1) : Int)) (some ((false, ()), ())) (lp0 a0 a1 0)
noncomputable def F_laws_eqLaneS (D : Den ctx) (n : Nat) (a0 : List (ByteArray × List Int × Unit)) (a1 : List (ByteArray × List Int × Unit)) : Option ((Bool × Unit) × Unit) := laws_eqLaneS_e D n (laws_eqLaneS_LP0 D n) a0 a1
def laws_eqLaneS_Q0 (x0 : List (ByteArray × List Int × Unit)) (x1 : List (ByteArray × List Int × Unit)) (x2 : Int) : St :=
  stq 27 [(0, AV.val (Ty.sl (Ty.pair Ty.str (Ty.pair (Ty.sl (Ty.int IntKind.i64)) Ty.unit))) x0), (1, AV.val (Ty.sl (Ty.pair Ty.str (Ty.pair (Ty.sl (Ty.int IntKind.i64)) Ty.unit))) x1), (5, AV.val (Ty.int IntKind.i64) x2)] []
def laws_eqLaneS_Q0_0 (v0_0 : Bool) : St :=
  stq 27 [(4, AV.val Ty.bool v0_0)] []
def laws_eqLaneS_Q0_1 : St :=
  stq 27 [] []
theorem laws_eqLaneS_SB0 (D : Den ctx) (n : Nat) (m : Nat) (K : Ex → St → Option (Out ctx 61)) (x0 : List (ByteArray × List Int × Unit)) (x1 : List (ByteArray × List Int × Unit)) (x2 : Int) :
  LQ funcTab D n 61 [.r, .r, .l, .r, .l] (m + 1) (laws_eqLaneS_Q0 x0 x1 x2) K = laws_eqLaneS_b0 D n (fun x0 x1 x2 => LQ funcTab D n 61 [.r, .r, .l, .r, .l] m (laws_eqLaneS_Q0 x0 x1 x2) K) (fun v0_0 => K (Ex.ret) (laws_eqLaneS_Q0_0 v0_0)) (K (Ex.exit 0) (laws_eqLaneS_Q0_1)) x0 x1 x2 := by kernel_rfl
theorem laws_eqLaneS_EL0 (D : Den ctx) (n : Nat) (K : Ex → St → Option (Out ctx 61)) : ∀ (m : Nat) (x0 : List (ByteArray × List Int × Unit)) (x1 : List (ByteArray × List Int × Unit)) (x2 : Int), LQ funcTab D n 61 [.r, .r, .l, .r, .l] m (laws_eqLaneS_Q0 x0 x1 x2) K = laws_eqLaneS_L0 D n (fun v0_0 => K (Ex.ret) (laws_eqLaneS_Q0_0 v0_0)) (K (Ex.exit 0) (laws_eqLaneS_Q0_1)) m x0 x1 x2
  | 0, x0, x1, x2 => LQ_zero ..
  | m + 1, x0, x1, x2 => by
    have ih : (fun x0 x1 x2 => LQ funcTab D n 61 [.r, .r, .l, .r, .l] m (laws_eqLaneS_Q0 x0 x1 x2) K) = laws_eqLaneS_L0 D n (fun v0_0 => K (Ex.ret) (laws_eqLaneS_Q0_0 v0_0)) (K (Ex.exit 0) (laws_eqLaneS_Q0_1)) m := by funext x0 x1 x2; exact laws_eqLaneS_EL0 D n K m x0 x1 x2
    rw [laws_eqLaneS_SB0]
    rw [ih]; rfl
theorem laws_eqLaneS_X0_0 (D : Den ctx) (n : Nat) (v0_0 : Bool) :
  (CQ funcTab D n 61 [] [.r, .r, .l, .r, .l] (lastK funcTab 61)) (Ex.ret) (laws_eqLaneS_Q0_0 v0_0) = laws_eqLaneS_x0_0 D n v0_0 := by kernel_rfl
theorem laws_eqLaneS_X0_1 (D : Den ctx) (n : Nat) :
  (CQ funcTab D n 61 [] [.r, .r, .l, .r, .l] (lastK funcTab 61)) (Ex.exit 0) (laws_eqLaneS_Q0_1) = laws_eqLaneS_x0_1 D n := by kernel_rfl
theorem laws_eqLaneS_ELP0 (D : Den ctx) (n : Nat) (x0 : List (ByteArray × List Int × Unit)) (x1 : List (ByteArray × List Int × Unit)) (x2 : Int) :
  LQ funcTab D n 61 [.r, .r, .l, .r, .l] n (laws_eqLaneS_Q0 x0 x1 x2) (CQ funcTab D n 61 [] [.r, .r, .l, .r, .l] (lastK funcTab 61)) = laws_eqLaneS_LP0 D n x0 x1 x2 := by
  rw [laws_eqLaneS_EL0]
  simp only [laws_eqLaneS_X0_0, laws_eqLaneS_X0_1]
  rfl
theorem E_laws_eqLaneS (D : Den ctx) (n : Nat) (a0 : List (ByteArray × List Int × Unit)) (a1 : List (ByteArray × List Int × Unit)) : rfC funcTab D n 61 (a0, (a1, ())) = F_laws_eqLaneS D n a0 a1 := by
  have h : rfC funcTab D n 61 (a0, (a1, ())) = laws_eqLaneS_e D n (fun x0 x1 x2 => LQ funcTab D n 61 [.r, .r, .l, .r, .l] n (laws_eqLaneS_Q0 x0 x1 x2) (CQ funcTab D n 61 [] [.r, .r, .l, .r, .l] (lastK funcTab 61))) a0 a1 := by kernel_rfl
  rw [h]
  simp only [laws_eqLaneS_ELP0]
  rfl

end Go.G

/- G: functions of the program as told by V. No condition. Printed by a program of this session. -/
namespace Go.G
set_option linter.unusedVariables false
set_option maxRecDepth 100000
set_option maxHeartbeats 0
open Go Go.V
/- laws_markIntS -/
noncomputable def laws_markIntS_b0 (D : Den ctx) (n : Nat) (go : Int → Int → List Int → Option ((Int × Unit) × List Int × Unit)) (K0 : Int → List Int → Option ((Int × Unit) × List Int × Unit)) (x0 : Int) (x1 : Int) (x2 : List Int) : Option ((Int × Unit) × List Int × Unit) :=
  br (decide (x1 < (↑(List.length x2) : Int)))
    (br (decide (0 ≤ x1) && decide (x1 < (↑(List.length x2) : Int)))
      (go (IntKind.wrap IntKind.i64 (x0 + 1)) (IntKind.wrap IntKind.i64 (x1 + 1)) (List.set x2 (Int.toNat x1) x0)) none)
    (K0 x0 x2)
noncomputable def laws_markIntS_L0 (D : Den ctx) (n : Nat) (K0 : Int → List Int → Option ((Int × Unit) × List Int × Unit)) : Nat → (Int) → (Int) → (List Int) → Option ((Int × Unit) × List Int × Unit)
  | 0 => (fun x0 x1 x2 => none)
  | m + 1 => (fun x0 x1 x2 => laws_markIntS_b0 D n (laws_markIntS_L0 D n K0 m) K0 x0 x1 x2)
noncomputable def laws_markIntS_x0_0 (D : Den ctx) (n : Nat) (v0_0 : Int) (v0_1 : List Int) : Option ((Int × Unit) × List Int × Unit) :=
  some ((v0_0, ()), v0_1, ())
noncomputable def laws_markIntS_LP0 (D : Den ctx) (n : Nat) : (Int) → (Int) → (List Int) → Option ((Int × Unit) × List Int × Unit) :=
  (fun x0 x1 x2 => laws_markIntS_L0 D n (fun v0_0 v0_1 => laws_markIntS_x0_0 D n v0_0 v0_1) n x0 x1 x2)
noncomputable def laws_markIntS_e (D : Den ctx) (n : Nat) (lp0 : Int → Int → List Int → Option ((Int × Unit) × List Int × Unit)) (a0 : List Int) (a1 : Int) : Option ((Int × Unit) × List Int × Unit) :=
  lp0 a1 0 a0
noncomputable def F_laws_markIntS (D : Den ctx) (n : Nat) (a0 : List Int) (a1 : Int) : Option ((Int × Unit) × List Int × Unit) := laws_markIntS_e D n (laws_markIntS_LP0 D n) a0 a1
def laws_markIntS_Q0 (x0 : Int) (x1 : Int) (x2 : List Int) : St :=
  stq 19 [(0, AV.brw 0 [] 1048576), (1, AV.val (Ty.int IntKind.i64) x0), (5, AV.val (Ty.int IntKind.i64) x1)] [(0, Root.mk (Ty.sl (Ty.int IntKind.i64)) (Mk.own 1048576 Mk.no) x2 false)]
def laws_markIntS_Q0_0 (v0_0 : Int) (v0_1 : List Int) : St :=
  stq 19 [(0, AV.brw 0 [] 1048576), (1, AV.val (Ty.int IntKind.i64) v0_0)] [(0, Root.mk (Ty.sl (Ty.int IntKind.i64)) (Mk.own 1048576 Mk.no) v0_1 false)]
theorem laws_markIntS_SB0 (D : Den ctx) (n : Nat) (m : Nat) (K : Ex → St → Option (Out ctx 62)) (x0 : Int) (x1 : Int) (x2 : List Int) :
  LQ funcTab D n 62 [.r, .l, .r, .l] (m + 1) (laws_markIntS_Q0 x0 x1 x2) K = laws_markIntS_b0 D n (fun x0 x1 x2 => LQ funcTab D n 62 [.r, .l, .r, .l] m (laws_markIntS_Q0 x0 x1 x2) K) (fun v0_0 v0_1 => K (Ex.exit 0) (laws_markIntS_Q0_0 v0_0 v0_1)) x0 x1 x2 := by kernel_rfl
theorem laws_markIntS_EL0 (D : Den ctx) (n : Nat) (K : Ex → St → Option (Out ctx 62)) : ∀ (m : Nat) (x0 : Int) (x1 : Int) (x2 : List Int), LQ funcTab D n 62 [.r, .l, .r, .l] m (laws_markIntS_Q0 x0 x1 x2) K = laws_markIntS_L0 D n (fun v0_0 v0_1 => K (Ex.exit 0) (laws_markIntS_Q0_0 v0_0 v0_1)) m x0 x1 x2
  | 0, x0, x1, x2 => LQ_zero ..
  | m + 1, x0, x1, x2 => by
    have ih : (fun x0 x1 x2 => LQ funcTab D n 62 [.r, .l, .r, .l] m (laws_markIntS_Q0 x0 x1 x2) K) = laws_markIntS_L0 D n (fun v0_0 v0_1 => K (Ex.exit 0) (laws_markIntS_Q0_0 v0_0 v0_1)) m := by funext x0 x1 x2; exact laws_markIntS_EL0 D n K m x0 x1 x2
    rw [laws_markIntS_SB0]
    rw [ih]; rfl
theorem laws_markIntS_X0_0 (D : Den ctx) (n : Nat) (v0_0 : Int) (v0_1 : List Int) :
  (CQ funcTab D n 62 [] [.r, .l, .r, .l] (lastK funcTab 62)) (Ex.exit 0) (laws_markIntS_Q0_0 v0_0 v0_1) = laws_markIntS_x0_0 D n v0_0 v0_1 := by kernel_rfl
theorem laws_markIntS_ELP0 (D : Den ctx) (n : Nat) (x0 : Int) (x1 : Int) (x2 : List Int) :
  LQ funcTab D n 62 [.r, .l, .r, .l] n (laws_markIntS_Q0 x0 x1 x2) (CQ funcTab D n 62 [] [.r, .l, .r, .l] (lastK funcTab 62)) = laws_markIntS_LP0 D n x0 x1 x2 := by
  rw [laws_markIntS_EL0]
  simp only [laws_markIntS_X0_0]
  rfl
theorem E_laws_markIntS (D : Den ctx) (n : Nat) (a0 : List Int) (a1 : Int) : rfC funcTab D n 62 (a0, (a1, ())) = F_laws_markIntS D n a0 a1 := by
  have h : rfC funcTab D n 62 (a0, (a1, ())) = laws_markIntS_e D n (fun x0 x1 x2 => LQ funcTab D n 62 [.r, .l, .r, .l] n (laws_markIntS_Q0 x0 x1 x2) (CQ funcTab D n 62 [] [.r, .l, .r, .l] (lastK funcTab 62))) a0 a1 := by kernel_rfl
  rw [h]
  simp only [laws_markIntS_ELP0]
  rfl

end Go.G

/- G: functions of the program as told by V. No condition. Printed by a program of this session. -/
namespace Go.G
set_option linter.unusedVariables false
set_option maxRecDepth 100000
set_option maxHeartbeats 0
open Go Go.V
/- laws_markLaneS -/
noncomputable def laws_markLaneS_b0 (D : Den ctx) (n : Nat) (go : Int → Int → List (ByteArray × List Int × Unit) → Option ((Int × Unit) × List (ByteArray × List Int × Unit) × Unit)) (K0 : Int → List (ByteArray × List Int × Unit) → Option ((Int × Unit) × List (ByteArray × List Int × Unit) × Unit)) (x0 : Int) (x1 : Int) (x2 : List (ByteArray × List Int × Unit)) : Option ((Int × Unit) × List (ByteArray × List Int × Unit) × Unit) :=
  br (decide (x1 < (↑(List.length x2) : Int)))
    (bindD (C_laws_markText D x0) fun b ↦
      br (decide (0 ≤ x1) && decide (x1 < (↑(List.length x2) : Int)))
        (br
          (decide (0 ≤ x1) &&
            decide
              (x1 <
                (↑(List.length (List.set x2 (Int.toNat x1) (Prod.fst (Prod.fst b), Prod.snd (List.getD x2 (Int.toNat x1) (ByteArray.empty, [], ()))))) :
                  Int)))
          (bindD
            (C_laws_markIntS D
              (Prod.fst
                (Prod.snd
                  (List.getD (List.set x2 (Int.toNat x1) (Prod.fst (Prod.fst b), Prod.snd (List.getD x2 (Int.toNat x1) (ByteArray.empty, [], ()))))
                    (Int.toNat x1) (ByteArray.empty, [], ()))))
              (IntKind.wrap IntKind.i64 (x0 + 1)))
            fun b_1 ↦
            br (decide ([Stp.idx (Int.toNat x1) 1048576, Stp.snd, Stp.fst] = [Stp.idx (Int.toNat x1) 1048576, Stp.snd, Stp.fst]) && true)
              (go (Prod.fst (Prod.fst b_1)) (IntKind.wrap IntKind.i64 (x1 + 1))
                (List.set (List.set x2 (Int.toNat x1) (Prod.fst (Prod.fst b), Prod.snd (List.getD x2 (Int.toNat x1) (ByteArray.empty, [], ()))))
                  (Int.toNat x1)
                  (Prod.fst
                      (List.getD (List.set x2 (Int.toNat x1) (Prod.fst (Prod.fst b), Prod.snd (List.getD x2 (Int.toNat x1) (ByteArray.empty, [], ()))))
                        (Int.toNat x1) (ByteArray.empty, [], ())),
                    Prod.fst (Prod.snd b_1),
                    Prod.snd
                      (Prod.snd
                        (List.getD
                          (List.set x2 (Int.toNat x1) (Prod.fst (Prod.fst b), Prod.snd (List.getD x2 (Int.toNat x1) (ByteArray.empty, [], ()))))
                          (Int.toNat x1) (ByteArray.empty, [], ()))))))
              none)
          none)
        none)
    (K0 x0 x2)
noncomputable def laws_markLaneS_L0 (D : Den ctx) (n : Nat) (K0 : Int → List (ByteArray × List Int × Unit) → Option ((Int × Unit) × List (ByteArray × List Int × Unit) × Unit)) : Nat → (Int) → (Int) → (List (ByteArray × List Int × Unit)) → Option ((Int × Unit) × List (ByteArray × List Int × Unit) × Unit)
  | 0 => (fun x0 x1 x2 => none)
  | m + 1 => (fun x0 x1 x2 => laws_markLaneS_b0 D n (laws_markLaneS_L0 D n K0 m) K0 x0 x1 x2)
noncomputable def laws_markLaneS_x0_0 (D : Den ctx) (n : Nat) (v0_0 : Int) (v0_1 : List (ByteArray × List Int × Unit)) : Option ((Int × Unit) × List (ByteArray × List Int × Unit) × Unit) :=
  some ((v0_0, ()), v0_1, ())
noncomputable def laws_markLaneS_LP0 (D : Den ctx) (n : Nat) : (Int) → (Int) → (List (ByteArray × List Int × Unit)) → Option ((Int × Unit) × List (ByteArray × List Int × Unit) × Unit) :=
  (fun x0 x1 x2 => laws_markLaneS_L0 D n (fun v0_0 v0_1 => laws_markLaneS_x0_0 D n v0_0 v0_1) n x0 x1 x2)
noncomputable def laws_markLaneS_e (D : Den ctx) (n : Nat) (lp0 : Int → Int → List (ByteArray × List Int × Unit) → Option ((Int × Unit) × List (ByteArray × List Int × Unit) × Unit)) (a0 : List (ByteArray × List Int × Unit)) (a1 : Int) : Option ((Int × Unit) × List (ByteArray × List Int × Unit) × Unit) :=
  lp0 a1 0 a0
noncomputable def F_laws_markLaneS (D : Den ctx) (n : Nat) (a0 : List (ByteArray × List Int × Unit)) (a1 : Int) : Option ((Int × Unit) × List (ByteArray × List Int × Unit) × Unit) := laws_markLaneS_e D n (laws_markLaneS_LP0 D n) a0 a1
def laws_markLaneS_Q0 (x0 : Int) (x1 : Int) (x2 : List (ByteArray × List Int × Unit)) : St :=
  stq 28 [(0, AV.brw 0 [] 1048576), (1, AV.val (Ty.int IntKind.i64) x0), (5, AV.val (Ty.int IntKind.i64) x1)] [(0, Root.mk (Ty.sl (Ty.pair Ty.str (Ty.pair (Ty.sl (Ty.int IntKind.i64)) Ty.unit))) (Mk.own 1048576 (Mk.pr Mk.no (Mk.pr (Mk.own 0 Mk.no) Mk.no))) x2 false)]
def laws_markLaneS_Q0_0 (v0_0 : Int) (v0_1 : List (ByteArray × List Int × Unit)) : St :=
  stq 28 [(0, AV.brw 0 [] 1048576), (1, AV.val (Ty.int IntKind.i64) v0_0)] [(0, Root.mk (Ty.sl (Ty.pair Ty.str (Ty.pair (Ty.sl (Ty.int IntKind.i64)) Ty.unit))) (Mk.own 1048576 (Mk.pr Mk.no (Mk.pr (Mk.own 0 Mk.no) Mk.no))) v0_1
    false)]
theorem laws_markLaneS_SB0 (D : Den ctx) (n : Nat) (m : Nat) (K : Ex → St → Option (Out ctx 63)) (x0 : Int) (x1 : Int) (x2 : List (ByteArray × List Int × Unit)) :
  LQ funcTab D n 63 [.r, .l, .r, .l] (m + 1) (laws_markLaneS_Q0 x0 x1 x2) K = laws_markLaneS_b0 D n (fun x0 x1 x2 => LQ funcTab D n 63 [.r, .l, .r, .l] m (laws_markLaneS_Q0 x0 x1 x2) K) (fun v0_0 v0_1 => K (Ex.exit 0) (laws_markLaneS_Q0_0 v0_0 v0_1)) x0 x1 x2 := by kernel_rfl
theorem laws_markLaneS_EL0 (D : Den ctx) (n : Nat) (K : Ex → St → Option (Out ctx 63)) : ∀ (m : Nat) (x0 : Int) (x1 : Int) (x2 : List (ByteArray × List Int × Unit)), LQ funcTab D n 63 [.r, .l, .r, .l] m (laws_markLaneS_Q0 x0 x1 x2) K = laws_markLaneS_L0 D n (fun v0_0 v0_1 => K (Ex.exit 0) (laws_markLaneS_Q0_0 v0_0 v0_1)) m x0 x1 x2
  | 0, x0, x1, x2 => LQ_zero ..
  | m + 1, x0, x1, x2 => by
    have ih : (fun x0 x1 x2 => LQ funcTab D n 63 [.r, .l, .r, .l] m (laws_markLaneS_Q0 x0 x1 x2) K) = laws_markLaneS_L0 D n (fun v0_0 v0_1 => K (Ex.exit 0) (laws_markLaneS_Q0_0 v0_0 v0_1)) m := by funext x0 x1 x2; exact laws_markLaneS_EL0 D n K m x0 x1 x2
    rw [laws_markLaneS_SB0]
    rw [ih]; rfl
theorem laws_markLaneS_X0_0 (D : Den ctx) (n : Nat) (v0_0 : Int) (v0_1 : List (ByteArray × List Int × Unit)) :
  (CQ funcTab D n 63 [] [.r, .l, .r, .l] (lastK funcTab 63)) (Ex.exit 0) (laws_markLaneS_Q0_0 v0_0 v0_1) = laws_markLaneS_x0_0 D n v0_0 v0_1 := by kernel_rfl
theorem laws_markLaneS_ELP0 (D : Den ctx) (n : Nat) (x0 : Int) (x1 : Int) (x2 : List (ByteArray × List Int × Unit)) :
  LQ funcTab D n 63 [.r, .l, .r, .l] n (laws_markLaneS_Q0 x0 x1 x2) (CQ funcTab D n 63 [] [.r, .l, .r, .l] (lastK funcTab 63)) = laws_markLaneS_LP0 D n x0 x1 x2 := by
  rw [laws_markLaneS_EL0]
  simp only [laws_markLaneS_X0_0]
  rfl
theorem E_laws_markLaneS (D : Den ctx) (n : Nat) (a0 : List (ByteArray × List Int × Unit)) (a1 : Int) : rfC funcTab D n 63 (a0, (a1, ())) = F_laws_markLaneS D n a0 a1 := by
  have h : rfC funcTab D n 63 (a0, (a1, ())) = laws_markLaneS_e D n (fun x0 x1 x2 => LQ funcTab D n 63 [.r, .l, .r, .l] n (laws_markLaneS_Q0 x0 x1 x2) (CQ funcTab D n 63 [] [.r, .l, .r, .l] (lastK funcTab 63))) a0 a1 := by kernel_rfl
  rw [h]
  simp only [laws_markLaneS_ELP0]
  rfl

end Go.G

/- G: functions of the program as told by V. No condition. Printed by a program of this session. -/
namespace Go.G
set_option linter.unusedVariables false
set_option maxRecDepth 100000
set_option maxHeartbeats 0
open Go Go.V
/- laws_heldIntS -/
noncomputable def laws_heldIntS_b0 (D : Den ctx) (n : Nat) (go : List Int → Int → Int → Option ((Int × Unit) × Unit)) (K0 : Int → Int → Option ((Int × Unit) × Unit)) (K1 : Int → Option ((Int × Unit) × Unit)) (x0 : List Int) (x1 : Int) (x2 : Int) : Option ((Int × Unit) × Unit) :=
  br (decide (x2 < (↑(List.length x0) : Int)))
    (br (decide (0 ≤ x2) && decide (x2 < (↑(List.length x0) : Int)))
      (br (List.getD x0 (Int.toNat x2) 0 != x1) (K0 x1 (-1)) (go x0 (IntKind.wrap IntKind.i64 (x1 + 1)) (IntKind.wrap IntKind.i64 (x2 + 1)))) none)
    (K1 x1)
noncomputable def laws_heldIntS_L0 (D : Den ctx) (n : Nat) (K0 : Int → Int → Option ((Int × Unit) × Unit)) (K1 : Int → Option ((Int × Unit) × Unit)) : Nat → (List Int) → (Int) → (Int) → Option ((Int × Unit) × Unit)
  | 0 => (fun x0 x1 x2 => none)
  | m + 1 => (fun x0 x1 x2 => laws_heldIntS_b0 D n (laws_heldIntS_L0 D n K0 K1 m) K0 K1 x0 x1 x2)
noncomputable def laws_heldIntS_x0_0 (D : Den ctx) (n : Nat) (v0_0 : Int) (v0_1 : Int) : Option ((Int × Unit) × Unit) :=
  some ((v0_1, ()), ())
noncomputable def laws_heldIntS_x0_1 (D : Den ctx) (n : Nat) (v1_0 : Int) : Option ((Int × Unit) × Unit) :=
  some ((v1_0, ()), ())
noncomputable def laws_heldIntS_LP0 (D : Den ctx) (n : Nat) : (List Int) → (Int) → (Int) → Option ((Int × Unit) × Unit) :=
  (fun x0 x1 x2 => laws_heldIntS_L0 D n (fun v0_0 v0_1 => laws_heldIntS_x0_0 D n v0_0 v0_1) (fun v1_0 => laws_heldIntS_x0_1 D n v1_0) n x0 x1 x2)
noncomputable def laws_heldIntS_e (D : Den ctx) (n : Nat) (lp0 : List Int → Int → Int → Option ((Int × Unit) × Unit)) (a0 : List Int) (a1 : Int) : Option ((Int × Unit) × Unit) :=
  lp0 a0 a1 0
noncomputable def F_laws_heldIntS (D : Den ctx) (n : Nat) (a0 : List Int) (a1 : Int) : Option ((Int × Unit) × Unit) := laws_heldIntS_e D n (laws_heldIntS_LP0 D n) a0 a1
def laws_heldIntS_Q0 (x0 : List Int) (x1 : Int) (x2 : Int) : St :=
  stq 21 [(0, AV.val (Ty.sl (Ty.int IntKind.i64)) x0), (1, AV.val (Ty.int IntKind.i64) x1), (5, AV.val (Ty.int IntKind.i64) x2)] []
def laws_heldIntS_Q0_0 (v0_0 : Int) (v0_1 : Int) : St :=
  stq 21 [(1, AV.val (Ty.int IntKind.i64) v0_0), (4, AV.val (Ty.int IntKind.i64) v0_1)] []
def laws_heldIntS_Q0_1 (v1_0 : Int) : St :=
  stq 21 [(1, AV.val (Ty.int IntKind.i64) v1_0)] []
theorem laws_heldIntS_SB0 (D : Den ctx) (n : Nat) (m : Nat) (K : Ex → St → Option (Out ctx 64)) (x0 : List Int) (x1 : Int) (x2 : Int) :
  LQ funcTab D n 64 [.r, .l, .r, .l] (m + 1) (laws_heldIntS_Q0 x0 x1 x2) K = laws_heldIntS_b0 D n (fun x0 x1 x2 => LQ funcTab D n 64 [.r, .l, .r, .l] m (laws_heldIntS_Q0 x0 x1 x2) K) (fun v0_0 v0_1 => K (Ex.ret) (laws_heldIntS_Q0_0 v0_0 v0_1)) (fun v1_0 => K (Ex.exit 0) (laws_heldIntS_Q0_1 v1_0)) x0 x1 x2 := by kernel_rfl
theorem laws_heldIntS_EL0 (D : Den ctx) (n : Nat) (K : Ex → St → Option (Out ctx 64)) : ∀ (m : Nat) (x0 : List Int) (x1 : Int) (x2 : Int), LQ funcTab D n 64 [.r, .l, .r, .l] m (laws_heldIntS_Q0 x0 x1 x2) K = laws_heldIntS_L0 D n (fun v0_0 v0_1 => K (Ex.ret) (laws_heldIntS_Q0_0 v0_0 v0_1)) (fun v1_0 => K (Ex.exit 0) (laws_heldIntS_Q0_1 v1_0)) m x0 x1 x2
  | 0, x0, x1, x2 => LQ_zero ..
  | m + 1, x0, x1, x2 => by
    have ih : (fun x0 x1 x2 => LQ funcTab D n 64 [.r, .l, .r, .l] m (laws_heldIntS_Q0 x0 x1 x2) K) = laws_heldIntS_L0 D n (fun v0_0 v0_1 => K (Ex.ret) (laws_heldIntS_Q0_0 v0_0 v0_1)) (fun v1_0 => K (Ex.exit 0) (laws_heldIntS_Q0_1 v1_0)) m := by funext x0 x1 x2; exact laws_heldIntS_EL0 D n K m x0 x1 x2
    rw [laws_heldIntS_SB0]
    rw [ih]; rfl
theorem laws_heldIntS_X0_0 (D : Den ctx) (n : Nat) (v0_0 : Int) (v0_1 : Int) :
  (CQ funcTab D n 64 [] [.r, .l, .r, .l] (lastK funcTab 64)) (Ex.ret) (laws_heldIntS_Q0_0 v0_0 v0_1) = laws_heldIntS_x0_0 D n v0_0 v0_1 := by kernel_rfl
theorem laws_heldIntS_X0_1 (D : Den ctx) (n : Nat) (v1_0 : Int) :
  (CQ funcTab D n 64 [] [.r, .l, .r, .l] (lastK funcTab 64)) (Ex.exit 0) (laws_heldIntS_Q0_1 v1_0) = laws_heldIntS_x0_1 D n v1_0 := by kernel_rfl
theorem laws_heldIntS_ELP0 (D : Den ctx) (n : Nat) (x0 : List Int) (x1 : Int) (x2 : Int) :
  LQ funcTab D n 64 [.r, .l, .r, .l] n (laws_heldIntS_Q0 x0 x1 x2) (CQ funcTab D n 64 [] [.r, .l, .r, .l] (lastK funcTab 64)) = laws_heldIntS_LP0 D n x0 x1 x2 := by
  rw [laws_heldIntS_EL0]
  simp only [laws_heldIntS_X0_0, laws_heldIntS_X0_1]
  rfl
theorem E_laws_heldIntS (D : Den ctx) (n : Nat) (a0 : List Int) (a1 : Int) : rfC funcTab D n 64 (a0, (a1, ())) = F_laws_heldIntS D n a0 a1 := by
  have h : rfC funcTab D n 64 (a0, (a1, ())) = laws_heldIntS_e D n (fun x0 x1 x2 => LQ funcTab D n 64 [.r, .l, .r, .l] n (laws_heldIntS_Q0 x0 x1 x2) (CQ funcTab D n 64 [] [.r, .l, .r, .l] (lastK funcTab 64))) a0 a1 := by kernel_rfl
  rw [h]
  simp only [laws_heldIntS_ELP0]
  rfl

end Go.G

/- G: functions of the program as told by V. No condition. Printed by a program of this session. -/
namespace Go.G
set_option linter.unusedVariables false
set_option maxRecDepth 100000
set_option maxHeartbeats 0
open Go Go.V
/- laws_heldLaneS -/
noncomputable def laws_heldLaneS_b0 (D : Den ctx) (n : Nat) (go : List (ByteArray × List Int × Unit) → Int → Int → Option ((Int × Unit) × Unit)) (K0 : Int → Int → Option ((Int × Unit) × Unit)) (K1 : Int → Option ((Int × Unit) × Unit)) (x0 : List (ByteArray × List Int × Unit)) (x1 : Int) (x2 : Int) : Option ((Int × Unit) × Unit) :=
  br (decide (x2 < (↑(List.length x0) : Int)))
    (br (decide (0 ≤ x2) && decide (x2 < (↑(List.length x0) : Int)))
      (bindD (C_laws_markText D x1) fun b ↦
        br (!List.beq (ByteArray.toList (Prod.fst (List.getD x0 (Int.toNat x2) (ByteArray.empty, [], ())))) (ByteArray.toList (Prod.fst (Prod.fst b))))
          (K0 x1 (-1))
          (br (decide (0 ≤ x2) && decide (x2 < (↑(List.length x0) : Int)))
            (bindD (C_laws_heldIntS D (Prod.fst (Prod.snd (List.getD x0 (Int.toNat x2) (ByteArray.empty, [], ())))) (IntKind.wrap IntKind.i64 (x1 + 1)))
              fun b ↦
              br (decide (Prod.fst (Prod.fst b) < 0)) (K0 (Prod.fst (Prod.fst b)) (-1))
                (go x0 (Prod.fst (Prod.fst b)) (IntKind.wrap IntKind.i64 (x2 + 1))))
            none))
      none)
    (K1 x1)
noncomputable def laws_heldLaneS_L0 (D : Den ctx) (n : Nat) (K0 : Int → Int → Option ((Int × Unit) × Unit)) (K1 : Int → Option ((Int × Unit) × Unit)) : Nat → (List (ByteArray × List Int × Unit)) → (Int) → (Int) → Option ((Int × Unit) × Unit)
  | 0 => (fun x0 x1 x2 => none)
  | m + 1 => (fun x0 x1 x2 => laws_heldLaneS_b0 D n (laws_heldLaneS_L0 D n K0 K1 m) K0 K1 x0 x1 x2)
noncomputable def laws_heldLaneS_x0_0 (D : Den ctx) (n : Nat) (v0_0 : Int) (v0_1 : Int) : Option ((Int × Unit) × Unit) :=
  some ((v0_1, ()), ())
noncomputable def laws_heldLaneS_x0_1 (D : Den ctx) (n : Nat) (v1_0 : Int) : Option ((Int × Unit) × Unit) :=
  some ((v1_0, ()), ())
noncomputable def laws_heldLaneS_LP0 (D : Den ctx) (n : Nat) : (List (ByteArray × List Int × Unit)) → (Int) → (Int) → Option ((Int × Unit) × Unit) :=
  (fun x0 x1 x2 => laws_heldLaneS_L0 D n (fun v0_0 v0_1 => laws_heldLaneS_x0_0 D n v0_0 v0_1) (fun v1_0 => laws_heldLaneS_x0_1 D n v1_0) n x0 x1 x2)
noncomputable def laws_heldLaneS_e (D : Den ctx) (n : Nat) (lp0 : List (ByteArray × List Int × Unit) → Int → Int → Option ((Int × Unit) × Unit)) (a0 : List (ByteArray × List Int × Unit)) (a1 : Int) : Option ((Int × Unit) × Unit) :=
  lp0 a0 a1 0
noncomputable def F_laws_heldLaneS (D : Den ctx) (n : Nat) (a0 : List (ByteArray × List Int × Unit)) (a1 : Int) : Option ((Int × Unit) × Unit) := laws_heldLaneS_e D n (laws_heldLaneS_LP0 D n) a0 a1
def laws_heldLaneS_Q0 (x0 : List (ByteArray × List Int × Unit)) (x1 : Int) (x2 : Int) : St :=
  stq 32 [(0, AV.val (Ty.sl (Ty.pair Ty.str (Ty.pair (Ty.sl (Ty.int IntKind.i64)) Ty.unit))) x0), (1, AV.val (Ty.int IntKind.i64) x1), (5, AV.val (Ty.int IntKind.i64) x2)] []
def laws_heldLaneS_Q0_0 (v0_0 : Int) (v0_1 : Int) : St :=
  stq 32 [(1, AV.val (Ty.int IntKind.i64) v0_0), (4, AV.val (Ty.int IntKind.i64) v0_1)] []
def laws_heldLaneS_Q0_1 (v1_0 : Int) : St :=
  stq 32 [(1, AV.val (Ty.int IntKind.i64) v1_0)] []
theorem laws_heldLaneS_SB0 (D : Den ctx) (n : Nat) (m : Nat) (K : Ex → St → Option (Out ctx 65)) (x0 : List (ByteArray × List Int × Unit)) (x1 : Int) (x2 : Int) :
  LQ funcTab D n 65 [.r, .l, .r, .l] (m + 1) (laws_heldLaneS_Q0 x0 x1 x2) K = laws_heldLaneS_b0 D n (fun x0 x1 x2 => LQ funcTab D n 65 [.r, .l, .r, .l] m (laws_heldLaneS_Q0 x0 x1 x2) K) (fun v0_0 v0_1 => K (Ex.ret) (laws_heldLaneS_Q0_0 v0_0 v0_1)) (fun v1_0 => K (Ex.exit 0) (laws_heldLaneS_Q0_1 v1_0)) x0 x1 x2 := by kernel_rfl
theorem laws_heldLaneS_EL0 (D : Den ctx) (n : Nat) (K : Ex → St → Option (Out ctx 65)) : ∀ (m : Nat) (x0 : List (ByteArray × List Int × Unit)) (x1 : Int) (x2 : Int), LQ funcTab D n 65 [.r, .l, .r, .l] m (laws_heldLaneS_Q0 x0 x1 x2) K = laws_heldLaneS_L0 D n (fun v0_0 v0_1 => K (Ex.ret) (laws_heldLaneS_Q0_0 v0_0 v0_1)) (fun v1_0 => K (Ex.exit 0) (laws_heldLaneS_Q0_1 v1_0)) m x0 x1 x2
  | 0, x0, x1, x2 => LQ_zero ..
  | m + 1, x0, x1, x2 => by
    have ih : (fun x0 x1 x2 => LQ funcTab D n 65 [.r, .l, .r, .l] m (laws_heldLaneS_Q0 x0 x1 x2) K) = laws_heldLaneS_L0 D n (fun v0_0 v0_1 => K (Ex.ret) (laws_heldLaneS_Q0_0 v0_0 v0_1)) (fun v1_0 => K (Ex.exit 0) (laws_heldLaneS_Q0_1 v1_0)) m := by funext x0 x1 x2; exact laws_heldLaneS_EL0 D n K m x0 x1 x2
    rw [laws_heldLaneS_SB0]
    rw [ih]; rfl
theorem laws_heldLaneS_X0_0 (D : Den ctx) (n : Nat) (v0_0 : Int) (v0_1 : Int) :
  (CQ funcTab D n 65 [] [.r, .l, .r, .l] (lastK funcTab 65)) (Ex.ret) (laws_heldLaneS_Q0_0 v0_0 v0_1) = laws_heldLaneS_x0_0 D n v0_0 v0_1 := by kernel_rfl
theorem laws_heldLaneS_X0_1 (D : Den ctx) (n : Nat) (v1_0 : Int) :
  (CQ funcTab D n 65 [] [.r, .l, .r, .l] (lastK funcTab 65)) (Ex.exit 0) (laws_heldLaneS_Q0_1 v1_0) = laws_heldLaneS_x0_1 D n v1_0 := by kernel_rfl
theorem laws_heldLaneS_ELP0 (D : Den ctx) (n : Nat) (x0 : List (ByteArray × List Int × Unit)) (x1 : Int) (x2 : Int) :
  LQ funcTab D n 65 [.r, .l, .r, .l] n (laws_heldLaneS_Q0 x0 x1 x2) (CQ funcTab D n 65 [] [.r, .l, .r, .l] (lastK funcTab 65)) = laws_heldLaneS_LP0 D n x0 x1 x2 := by
  rw [laws_heldLaneS_EL0]
  simp only [laws_heldLaneS_X0_0, laws_heldLaneS_X0_1]
  rfl
theorem E_laws_heldLaneS (D : Den ctx) (n : Nat) (a0 : List (ByteArray × List Int × Unit)) (a1 : Int) : rfC funcTab D n 65 (a0, (a1, ())) = F_laws_heldLaneS D n a0 a1 := by
  have h : rfC funcTab D n 65 (a0, (a1, ())) = laws_heldLaneS_e D n (fun x0 x1 x2 => LQ funcTab D n 65 [.r, .l, .r, .l] n (laws_heldLaneS_Q0 x0 x1 x2) (CQ funcTab D n 65 [] [.r, .l, .r, .l] (lastK funcTab 65))) a0 a1 := by kernel_rfl
  rw [h]
  simp only [laws_heldLaneS_ELP0]
  rfl

end Go.G

/- G: functions of the program as told by V. No condition. Printed by a program of this session. -/
namespace Go.G
set_option linter.unusedVariables false
set_option maxRecDepth 100000
set_option maxHeartbeats 0
open Go Go.V
/- laws_markText -/
noncomputable def laws_markText_b0 (D : Den ctx) (n : Nat) (go : Int → ByteArray → Option ((ByteArray × Unit) × Unit)) (K0 : ByteArray → Option ((ByteArray × Unit) × Unit)) (x0 : Int) (x1 : ByteArray) : Option ((ByteArray × Unit) × Unit) :=
  br (decide (x0 > 0))
    (br
      (decide
        (ByteArray.size
              (ByteArray.mk
                (List.toArray
                  (List.map (fun n ↦ UInt8.ofNat (Int.toNat n)) [IntKind.wrap IntKind.u8 (IntKind.wrap IntKind.i64 (48 + Int.tmod x0 10))]))) +
            ByteArray.size x1 ≤
          Nat.pow 2 47))
      (go (IntKind.wrap IntKind.i64 (Int.tdiv x0 10))
        (ByteArray.append
          (ByteArray.mk
            (List.toArray (List.map (fun n ↦ UInt8.ofNat (Int.toNat n)) [IntKind.wrap IntKind.u8 (IntKind.wrap IntKind.i64 (48 + Int.tmod x0 10))])))
          x1))
      none)
    (K0 x1)
noncomputable def laws_markText_L0 (D : Den ctx) (n : Nat) (K0 : ByteArray → Option ((ByteArray × Unit) × Unit)) : Nat → (Int) → (ByteArray) → Option ((ByteArray × Unit) × Unit)
  | 0 => (fun x0 x1 => none)
  | m + 1 => (fun x0 x1 => laws_markText_b0 D n (laws_markText_L0 D n K0 m) K0 x0 x1)
noncomputable def laws_markText_x0_0 (D : Den ctx) (n : Nat) (v0_0 : ByteArray) : Option ((ByteArray × Unit) × Unit) :=
  br (decide (ByteArray.size (ByteArray.mk #[UInt8.ofNat 109]) + ByteArray.size v0_0 ≤ Nat.pow 2 47))
    (some ((ByteArray.append (ByteArray.mk #[UInt8.ofNat 109]) v0_0, ()), ())) none
noncomputable def laws_markText_LP0 (D : Den ctx) (n : Nat) : (Int) → (ByteArray) → Option ((ByteArray × Unit) × Unit) :=
  (fun x0 x1 => laws_markText_L0 D n (fun v0_0 => laws_markText_x0_0 D n v0_0) n x0 x1)
noncomputable def laws_markText_e (D : Den ctx) (n : Nat) (lp0 : Int → ByteArray → Option ((ByteArray × Unit) × Unit)) (a0 : Int) : Option ((ByteArray × Unit) × Unit) :=
  br (decide (a0 ≤ 0)) (some ((ByteArray.mk #[UInt8.ofNat 109, UInt8.ofNat 48], ()), ())) (lp0 a0 (ByteArray.mk #[]))
noncomputable def F_laws_markText (D : Den ctx) (n : Nat) (a0 : Int) : Option ((ByteArray × Unit) × Unit) := laws_markText_e D n (laws_markText_LP0 D n) a0
def laws_markText_Q0 (x0 : Int) (x1 : ByteArray) : St :=
  stq 20 [(0, AV.val (Ty.int IntKind.i64) x0), (3, AV.val Ty.str x1)] []
def laws_markText_Q0_0 (v0_0 : ByteArray) : St :=
  stq 20 [(3, AV.val Ty.str v0_0)] []
theorem laws_markText_SB0 (D : Den ctx) (n : Nat) (m : Nat) (K : Ex → St → Option (Out ctx 70)) (x0 : Int) (x1 : ByteArray) :
  LQ funcTab D n 70 [.r, .r, .r, .l, .l] (m + 1) (laws_markText_Q0 x0 x1) K = laws_markText_b0 D n (fun x0 x1 => LQ funcTab D n 70 [.r, .r, .r, .l, .l] m (laws_markText_Q0 x0 x1) K) (fun v0_0 => K (Ex.exit 0) (laws_markText_Q0_0 v0_0)) x0 x1 := by kernel_rfl
theorem laws_markText_EL0 (D : Den ctx) (n : Nat) (K : Ex → St → Option (Out ctx 70)) : ∀ (m : Nat) (x0 : Int) (x1 : ByteArray), LQ funcTab D n 70 [.r, .r, .r, .l, .l] m (laws_markText_Q0 x0 x1) K = laws_markText_L0 D n (fun v0_0 => K (Ex.exit 0) (laws_markText_Q0_0 v0_0)) m x0 x1
  | 0, x0, x1 => LQ_zero ..
  | m + 1, x0, x1 => by
    have ih : (fun x0 x1 => LQ funcTab D n 70 [.r, .r, .r, .l, .l] m (laws_markText_Q0 x0 x1) K) = laws_markText_L0 D n (fun v0_0 => K (Ex.exit 0) (laws_markText_Q0_0 v0_0)) m := by funext x0 x1; exact laws_markText_EL0 D n K m x0 x1
    rw [laws_markText_SB0]
    rw [ih]; rfl
theorem laws_markText_X0_0 (D : Den ctx) (n : Nat) (v0_0 : ByteArray) :
  (CQ funcTab D n 70 [] [.r, .r, .r, .l, .l] (lastK funcTab 70)) (Ex.exit 0) (laws_markText_Q0_0 v0_0) = laws_markText_x0_0 D n v0_0 := by kernel_rfl
theorem laws_markText_ELP0 (D : Den ctx) (n : Nat) (x0 : Int) (x1 : ByteArray) :
  LQ funcTab D n 70 [.r, .r, .r, .l, .l] n (laws_markText_Q0 x0 x1) (CQ funcTab D n 70 [] [.r, .r, .r, .l, .l] (lastK funcTab 70)) = laws_markText_LP0 D n x0 x1 := by
  rw [laws_markText_EL0]
  simp only [laws_markText_X0_0]
  rfl
theorem E_laws_markText (D : Den ctx) (n : Nat) (a0 : Int) : rfC funcTab D n 70 (a0, ()) = F_laws_markText D n a0 := by
  have h : rfC funcTab D n 70 (a0, ()) = laws_markText_e D n (fun x0 x1 => LQ funcTab D n 70 [.r, .r, .r, .l, .l] n (laws_markText_Q0 x0 x1) (CQ funcTab D n 70 [] [.r, .r, .r, .l, .l] (lastK funcTab 70))) a0 := by kernel_rfl
  rw [h]
  simp only [laws_markText_ELP0]
  rfl

end Go.G

/- G: functions of the program as told by V. No condition. Printed by a program of this session. -/
namespace Go.G
set_option linter.unusedVariables false
set_option maxRecDepth 100000
set_option maxHeartbeats 0
open Go Go.V
/- laws_szIntS -/
noncomputable def laws_szIntS_e (D : Den ctx) (n : Nat) (a0 : List Int) (a1 : Int) : Option ((Int × Unit) × Unit) :=
  br (decide (IntKind.wrap IntKind.i64 (a1 - (↑(List.length a0) : Int)) < 0)) (some ((-1, ()), ()))
    (some ((IntKind.wrap IntKind.i64 (a1 - (↑(List.length a0) : Int)), ()), ()))
noncomputable def F_laws_szIntS (D : Den ctx) (n : Nat) (a0 : List Int) (a1 : Int) : Option ((Int × Unit) × Unit) := laws_szIntS_e D n a0 a1
theorem E_laws_szIntS (D : Den ctx) (n : Nat) (a0 : List Int) (a1 : Int) : rfC funcTab D n 77 (a0, (a1, ())) = F_laws_szIntS D n a0 a1 := by kernel_rfl

end Go.G

/- G: functions of the program as told by V. No condition. Printed by a program of this session. -/
namespace Go.G
set_option linter.unusedVariables false
set_option maxRecDepth 100000
set_option maxHeartbeats 0
open Go Go.V
/- laws_szLaneS -/
noncomputable def laws_szLaneS_b0 (D : Den ctx) (n : Nat) (go : List (ByteArray × List Int × Unit) → Int → Int → Option ((Int × Unit) × Unit)) (K0 : Int → Int → Option ((Int × Unit) × Unit)) (K1 : Int → Option ((Int × Unit) × Unit)) (x0 : List (ByteArray × List Int × Unit)) (x1 : Int) (x2 : Int) : Option ((Int × Unit) × Unit) :=
  br (decide (x2 < (↑(List.length x0) : Int)))
    (br (decide (0 ≤ x2) && decide (x2 < (↑(List.length x0) : Int)))
      (bindD (C_laws_szLane D (List.getD x0 (Int.toNat x2) (ByteArray.empty, [], ())) x1) fun b ↦
        br (decide (Prod.fst (Prod.fst b) < 0)) (K0 (Prod.fst (Prod.fst b)) (-1)) (go x0 (Prod.fst (Prod.fst b)) (IntKind.wrap IntKind.i64 (x2 + 1))))
      none)
    (K1 x1)
noncomputable def laws_szLaneS_L0 (D : Den ctx) (n : Nat) (K0 : Int → Int → Option ((Int × Unit) × Unit)) (K1 : Int → Option ((Int × Unit) × Unit)) : Nat → (List (ByteArray × List Int × Unit)) → (Int) → (Int) → Option ((Int × Unit) × Unit)
  | 0 => (fun x0 x1 x2 => none)
  | m + 1 => (fun x0 x1 x2 => laws_szLaneS_b0 D n (laws_szLaneS_L0 D n K0 K1 m) K0 K1 x0 x1 x2)
noncomputable def laws_szLaneS_x0_0 (D : Den ctx) (n : Nat) (v0_0 : Int) (v0_1 : Int) : Option ((Int × Unit) × Unit) :=
  some ((v0_1, ()), ())
noncomputable def laws_szLaneS_x0_1 (D : Den ctx) (n : Nat) (v1_0 : Int) : Option ((Int × Unit) × Unit) :=
  some ((v1_0, ()), ())
noncomputable def laws_szLaneS_LP0 (D : Den ctx) (n : Nat) : (List (ByteArray × List Int × Unit)) → (Int) → (Int) → Option ((Int × Unit) × Unit) :=
  (fun x0 x1 x2 => laws_szLaneS_L0 D n (fun v0_0 v0_1 => laws_szLaneS_x0_0 D n v0_0 v0_1) (fun v1_0 => laws_szLaneS_x0_1 D n v1_0) n x0 x1 x2)
noncomputable def laws_szLaneS_e (D : Den ctx) (n : Nat) (lp0 : List (ByteArray × List Int × Unit) → Int → Int → Option ((Int × Unit) × Unit)) (a0 : List (ByteArray × List Int × Unit)) (a1 : Int) : Option ((Int × Unit) × Unit) :=
  br (decide (IntKind.wrap IntKind.i64 (a1 - (↑(List.length a0) : Int)) < 0)) (some ((-1, ()), ()))
    (lp0 a0 (IntKind.wrap IntKind.i64 (a1 - (↑(List.length a0) : Int))) 0)
noncomputable def F_laws_szLaneS (D : Den ctx) (n : Nat) (a0 : List (ByteArray × List Int × Unit)) (a1 : Int) : Option ((Int × Unit) × Unit) := laws_szLaneS_e D n (laws_szLaneS_LP0 D n) a0 a1
def laws_szLaneS_Q0 (x0 : List (ByteArray × List Int × Unit)) (x1 : Int) (x2 : Int) : St :=
  stq 27 [(0, AV.val (Ty.sl (Ty.pair Ty.str (Ty.pair (Ty.sl (Ty.int IntKind.i64)) Ty.unit))) x0), (1, AV.val (Ty.int IntKind.i64) x1), (5, AV.val (Ty.int IntKind.i64) x2)] []
def laws_szLaneS_Q0_0 (v0_0 : Int) (v0_1 : Int) : St :=
  stq 27 [(1, AV.val (Ty.int IntKind.i64) v0_0), (4, AV.val (Ty.int IntKind.i64) v0_1)] []
def laws_szLaneS_Q0_1 (v1_0 : Int) : St :=
  stq 27 [(1, AV.val (Ty.int IntKind.i64) v1_0)] []
theorem laws_szLaneS_SB0 (D : Den ctx) (n : Nat) (m : Nat) (K : Ex → St → Option (Out ctx 78)) (x0 : List (ByteArray × List Int × Unit)) (x1 : Int) (x2 : Int) :
  LQ funcTab D n 78 [.r, .r, .r, .l, .r, .l] (m + 1) (laws_szLaneS_Q0 x0 x1 x2) K = laws_szLaneS_b0 D n (fun x0 x1 x2 => LQ funcTab D n 78 [.r, .r, .r, .l, .r, .l] m (laws_szLaneS_Q0 x0 x1 x2) K) (fun v0_0 v0_1 => K (Ex.ret) (laws_szLaneS_Q0_0 v0_0 v0_1)) (fun v1_0 => K (Ex.exit 0) (laws_szLaneS_Q0_1 v1_0)) x0 x1 x2 := by kernel_rfl
theorem laws_szLaneS_EL0 (D : Den ctx) (n : Nat) (K : Ex → St → Option (Out ctx 78)) : ∀ (m : Nat) (x0 : List (ByteArray × List Int × Unit)) (x1 : Int) (x2 : Int), LQ funcTab D n 78 [.r, .r, .r, .l, .r, .l] m (laws_szLaneS_Q0 x0 x1 x2) K = laws_szLaneS_L0 D n (fun v0_0 v0_1 => K (Ex.ret) (laws_szLaneS_Q0_0 v0_0 v0_1)) (fun v1_0 => K (Ex.exit 0) (laws_szLaneS_Q0_1 v1_0)) m x0 x1 x2
  | 0, x0, x1, x2 => LQ_zero ..
  | m + 1, x0, x1, x2 => by
    have ih : (fun x0 x1 x2 => LQ funcTab D n 78 [.r, .r, .r, .l, .r, .l] m (laws_szLaneS_Q0 x0 x1 x2) K) = laws_szLaneS_L0 D n (fun v0_0 v0_1 => K (Ex.ret) (laws_szLaneS_Q0_0 v0_0 v0_1)) (fun v1_0 => K (Ex.exit 0) (laws_szLaneS_Q0_1 v1_0)) m := by funext x0 x1 x2; exact laws_szLaneS_EL0 D n K m x0 x1 x2
    rw [laws_szLaneS_SB0]
    rw [ih]; rfl
theorem laws_szLaneS_X0_0 (D : Den ctx) (n : Nat) (v0_0 : Int) (v0_1 : Int) :
  (CQ funcTab D n 78 [] [.r, .r, .r, .l, .r, .l] (lastK funcTab 78)) (Ex.ret) (laws_szLaneS_Q0_0 v0_0 v0_1) = laws_szLaneS_x0_0 D n v0_0 v0_1 := by kernel_rfl
theorem laws_szLaneS_X0_1 (D : Den ctx) (n : Nat) (v1_0 : Int) :
  (CQ funcTab D n 78 [] [.r, .r, .r, .l, .r, .l] (lastK funcTab 78)) (Ex.exit 0) (laws_szLaneS_Q0_1 v1_0) = laws_szLaneS_x0_1 D n v1_0 := by kernel_rfl
theorem laws_szLaneS_ELP0 (D : Den ctx) (n : Nat) (x0 : List (ByteArray × List Int × Unit)) (x1 : Int) (x2 : Int) :
  LQ funcTab D n 78 [.r, .r, .r, .l, .r, .l] n (laws_szLaneS_Q0 x0 x1 x2) (CQ funcTab D n 78 [] [.r, .r, .r, .l, .r, .l] (lastK funcTab 78)) = laws_szLaneS_LP0 D n x0 x1 x2 := by
  rw [laws_szLaneS_EL0]
  simp only [laws_szLaneS_X0_0, laws_szLaneS_X0_1]
  rfl
theorem E_laws_szLaneS (D : Den ctx) (n : Nat) (a0 : List (ByteArray × List Int × Unit)) (a1 : Int) : rfC funcTab D n 78 (a0, (a1, ())) = F_laws_szLaneS D n a0 a1 := by
  have h : rfC funcTab D n 78 (a0, (a1, ())) = laws_szLaneS_e D n (fun x0 x1 x2 => LQ funcTab D n 78 [.r, .r, .r, .l, .r, .l] n (laws_szLaneS_Q0 x0 x1 x2) (CQ funcTab D n 78 [] [.r, .r, .r, .l, .r, .l] (lastK funcTab 78))) a0 a1 := by kernel_rfl
  rw [h]
  simp only [laws_szLaneS_ELP0]
  rfl

end Go.G

/- G: functions of the program as told by V. No condition. Printed by a program of this session. -/
namespace Go.G
set_option linter.unusedVariables false
set_option maxRecDepth 100000
set_option maxHeartbeats 0
open Go Go.V
/- laws_toIntS -/
noncomputable def laws_toIntS_b0 (D : Den ctx) (n : Nat) (go : List Int → Int → List Int → Option ((List Int × Unit) × Unit)) (K0 : List Int → Option ((List Int × Unit) × Unit)) (x0 : List Int) (x1 : Int) (x2 : List Int) : Option ((List Int × Unit) × Unit) :=
  br (decide (x1 < (↑(List.length x0) : Int)))
    (br (decide (0 ≤ x1) && decide (x1 < (↑(List.length x0) : Int)))
      (br (decide (0 ≤ x1) && decide (x1 < (↑(List.length x2) : Int)))
        (go x0 (IntKind.wrap IntKind.i64 (x1 + 1)) (List.set x2 (Int.toNat x1) (List.getD x0 (Int.toNat x1) 0))) none)
      none)
    (K0 x2)
noncomputable def laws_toIntS_L0 (D : Den ctx) (n : Nat) (K0 : List Int → Option ((List Int × Unit) × Unit)) : Nat → (List Int) → (Int) → (List Int) → Option ((List Int × Unit) × Unit)
  | 0 => (fun x0 x1 x2 => none)
  | m + 1 => (fun x0 x1 x2 => laws_toIntS_b0 D n (laws_toIntS_L0 D n K0 m) K0 x0 x1 x2)
noncomputable def laws_toIntS_x0_0 (D : Den ctx) (n : Nat) (v0_0 : List Int) : Option ((List Int × Unit) × Unit) :=
  some ((v0_0, ()), ())
noncomputable def laws_toIntS_LP0 (D : Den ctx) (n : Nat) : (List Int) → (Int) → (List Int) → Option ((List Int × Unit) × Unit) :=
  (fun x0 x1 x2 => laws_toIntS_L0 D n (fun v0_0 => laws_toIntS_x0_0 D n v0_0) n x0 x1 x2)
noncomputable def laws_toIntS_e (D : Den ctx) (n : Nat) (lp0 : List Int → Int → List Int → Option ((List Int × Unit) × Unit)) (a0 : List Int) : Option ((List Int × Unit) × Unit) :=
  br
    (decide (0 ≤ (↑(List.length a0) : Int)) && decide ((↑(List.length a0) : Int) ≤ (↑(List.length a0) : Int)) &&
      decide ((↑(List.length a0) : Int) ≤ (↑bound : Int)))
    (lp0 a0 0 (List.replicate (Int.toNat (↑(List.length a0) : Int)) 0)) none
noncomputable def F_laws_toIntS (D : Den ctx) (n : Nat) (a0 : List Int) : Option ((List Int × Unit) × Unit) := laws_toIntS_e D n (laws_toIntS_LP0 D n) a0
def laws_toIntS_Q0 (x0 : List Int) (x1 : Int) (x2 : List Int) : St :=
  stq 22 [(0, AV.val (Ty.sl (Ty.int IntKind.i64)) x0), (3, AV.brw 3 [] 0), (4, AV.val (Ty.int IntKind.i64) x1)] [(3, Root.mk (Ty.sl (Ty.int IntKind.i64)) (Mk.own 0 Mk.no) x2 false)]
def laws_toIntS_Q0_0 (v0_0 : List Int) : St :=
  stq 22 [(3, AV.brw 3 [] 0)] [(3, Root.mk (Ty.sl (Ty.int IntKind.i64)) (Mk.own 0 Mk.no) v0_0 false)]
theorem laws_toIntS_SB0 (D : Den ctx) (n : Nat) (m : Nat) (K : Ex → St → Option (Out ctx 81)) (x0 : List Int) (x1 : Int) (x2 : List Int) :
  LQ funcTab D n 81 [.r, .r, .l, .r, .l] (m + 1) (laws_toIntS_Q0 x0 x1 x2) K = laws_toIntS_b0 D n (fun x0 x1 x2 => LQ funcTab D n 81 [.r, .r, .l, .r, .l] m (laws_toIntS_Q0 x0 x1 x2) K) (fun v0_0 => K (Ex.exit 0) (laws_toIntS_Q0_0 v0_0)) x0 x1 x2 := by kernel_rfl
theorem laws_toIntS_EL0 (D : Den ctx) (n : Nat) (K : Ex → St → Option (Out ctx 81)) : ∀ (m : Nat) (x0 : List Int) (x1 : Int) (x2 : List Int), LQ funcTab D n 81 [.r, .r, .l, .r, .l] m (laws_toIntS_Q0 x0 x1 x2) K = laws_toIntS_L0 D n (fun v0_0 => K (Ex.exit 0) (laws_toIntS_Q0_0 v0_0)) m x0 x1 x2
  | 0, x0, x1, x2 => LQ_zero ..
  | m + 1, x0, x1, x2 => by
    have ih : (fun x0 x1 x2 => LQ funcTab D n 81 [.r, .r, .l, .r, .l] m (laws_toIntS_Q0 x0 x1 x2) K) = laws_toIntS_L0 D n (fun v0_0 => K (Ex.exit 0) (laws_toIntS_Q0_0 v0_0)) m := by funext x0 x1 x2; exact laws_toIntS_EL0 D n K m x0 x1 x2
    rw [laws_toIntS_SB0]
    rw [ih]; rfl
theorem laws_toIntS_X0_0 (D : Den ctx) (n : Nat) (v0_0 : List Int) :
  (CQ funcTab D n 81 [] [.r, .r, .l, .r, .l] (lastK funcTab 81)) (Ex.exit 0) (laws_toIntS_Q0_0 v0_0) = laws_toIntS_x0_0 D n v0_0 := by kernel_rfl
theorem laws_toIntS_ELP0 (D : Den ctx) (n : Nat) (x0 : List Int) (x1 : Int) (x2 : List Int) :
  LQ funcTab D n 81 [.r, .r, .l, .r, .l] n (laws_toIntS_Q0 x0 x1 x2) (CQ funcTab D n 81 [] [.r, .r, .l, .r, .l] (lastK funcTab 81)) = laws_toIntS_LP0 D n x0 x1 x2 := by
  rw [laws_toIntS_EL0]
  simp only [laws_toIntS_X0_0]
  rfl
theorem E_laws_toIntS (D : Den ctx) (n : Nat) (a0 : List Int) : rfC funcTab D n 81 (a0, ()) = F_laws_toIntS D n a0 := by
  have h : rfC funcTab D n 81 (a0, ()) = laws_toIntS_e D n (fun x0 x1 x2 => LQ funcTab D n 81 [.r, .r, .l, .r, .l] n (laws_toIntS_Q0 x0 x1 x2) (CQ funcTab D n 81 [] [.r, .r, .l, .r, .l] (lastK funcTab 81))) a0 := by kernel_rfl
  rw [h]
  simp only [laws_toIntS_ELP0]
  rfl

end Go.G

/- G: functions of the program as told by V. No condition. Printed by a program of this session. -/
namespace Go.G
set_option linter.unusedVariables false
set_option maxRecDepth 100000
set_option maxHeartbeats 0
open Go Go.V
/- laws_toLaneS -/
noncomputable def laws_toLaneS_b0 (D : Den ctx) (n : Nat) (go : List (ByteArray × List Int × Unit) → Int → List (ByteArray × List Int × Unit) → Option ((List (ByteArray × List Int × Unit) × Unit) × Unit)) (K0 : List (ByteArray × List Int × Unit) → Option ((List (ByteArray × List Int × Unit) × Unit) × Unit)) (x0 : List (ByteArray × List Int × Unit)) (x1 : Int) (x2 : List (ByteArray × List Int × Unit)) : Option ((List (ByteArray × List Int × Unit) × Unit) × Unit) :=
  br (decide (x1 < (↑(List.length x0) : Int)))
    (br (decide (0 ≤ x1) && decide (x1 < (↑(List.length x0) : Int)))
      (bindD (C_laws_toLane D (List.getD x0 (Int.toNat x1) (ByteArray.empty, [], ()))) fun b ↦
        br (decide (0 ≤ x1) && decide (x1 < (↑(List.length x2) : Int)))
          (go x0 (IntKind.wrap IntKind.i64 (x1 + 1))
            (List.set x2 (Int.toNat x1) (Prod.fst (Prod.fst (Prod.fst b)), Prod.fst (Prod.snd (Prod.fst (Prod.fst b))), ())))
          none)
      none)
    (K0 x2)
noncomputable def laws_toLaneS_L0 (D : Den ctx) (n : Nat) (K0 : List (ByteArray × List Int × Unit) → Option ((List (ByteArray × List Int × Unit) × Unit) × Unit)) : Nat → (List (ByteArray × List Int × Unit)) → (Int) → (List (ByteArray × List Int × Unit)) → Option ((List (ByteArray × List Int × Unit) × Unit) × Unit)
  | 0 => (fun x0 x1 x2 => none)
  | m + 1 => (fun x0 x1 x2 => laws_toLaneS_b0 D n (laws_toLaneS_L0 D n K0 m) K0 x0 x1 x2)
noncomputable def laws_toLaneS_x0_0 (D : Den ctx) (n : Nat) (v0_0 : List (ByteArray × List Int × Unit)) : Option ((List (ByteArray × List Int × Unit) × Unit) × Unit) :=
  some ((v0_0, ()), ())
noncomputable def laws_toLaneS_LP0 (D : Den ctx) (n : Nat) : (List (ByteArray × List Int × Unit)) → (Int) → (List (ByteArray × List Int × Unit)) → Option ((List (ByteArray × List Int × Unit) × Unit) × Unit) :=
  (fun x0 x1 x2 => laws_toLaneS_L0 D n (fun v0_0 => laws_toLaneS_x0_0 D n v0_0) n x0 x1 x2)
noncomputable def laws_toLaneS_e (D : Den ctx) (n : Nat) (lp0 : List (ByteArray × List Int × Unit) → Int → List (ByteArray × List Int × Unit) → Option ((List (ByteArray × List Int × Unit) × Unit) × Unit)) (a0 : List (ByteArray × List Int × Unit)) : Option ((List (ByteArray × List Int × Unit) × Unit) × Unit) :=
  br
    (decide (0 ≤ (↑(List.length a0) : Int)) && decide ((↑(List.length a0) : Int) ≤ (↑(List.length a0) : Int)) &&
      decide ((↑(List.length a0) : Int) ≤ (↑bound : Int)))
    (lp0 a0 0 (List.replicate (Int.toNat (↑(List.length a0) : Int)) (ByteArray.empty, [], ()))) none
noncomputable def F_laws_toLaneS (D : Den ctx) (n : Nat) (a0 : List (ByteArray × List Int × Unit)) : Option ((List (ByteArray × List Int × Unit) × Unit) × Unit) := laws_toLaneS_e D n (laws_toLaneS_LP0 D n) a0
def laws_toLaneS_Q0 (x0 : List (ByteArray × List Int × Unit)) (x1 : Int) (x2 : List (ByteArray × List Int × Unit)) : St :=
  stq 23 [(0, AV.val (Ty.sl (Ty.pair Ty.str (Ty.pair (Ty.sl (Ty.int IntKind.i64)) Ty.unit))) x0), (3, AV.brw 3 [] 0), (4, AV.val (Ty.int IntKind.i64) x1)] [(3, Root.mk (Ty.sl (Ty.pair Ty.str (Ty.pair (Ty.sl (Ty.int IntKind.i64)) Ty.unit))) (Mk.own 0 (Mk.pr Mk.no (Mk.pr (Mk.own 0 Mk.no) Mk.no))) x2 false)]
def laws_toLaneS_Q0_0 (v0_0 : List (ByteArray × List Int × Unit)) : St :=
  stq 23 [(3, AV.brw 3 [] 0)] [(3, Root.mk (Ty.sl (Ty.pair Ty.str (Ty.pair (Ty.sl (Ty.int IntKind.i64)) Ty.unit))) (Mk.own 0 (Mk.pr Mk.no (Mk.pr (Mk.own 0 Mk.no) Mk.no))) v0_0 false)]
theorem laws_toLaneS_SB0 (D : Den ctx) (n : Nat) (m : Nat) (K : Ex → St → Option (Out ctx 82)) (x0 : List (ByteArray × List Int × Unit)) (x1 : Int) (x2 : List (ByteArray × List Int × Unit)) :
  LQ funcTab D n 82 [.r, .r, .l, .r, .l] (m + 1) (laws_toLaneS_Q0 x0 x1 x2) K = laws_toLaneS_b0 D n (fun x0 x1 x2 => LQ funcTab D n 82 [.r, .r, .l, .r, .l] m (laws_toLaneS_Q0 x0 x1 x2) K) (fun v0_0 => K (Ex.exit 0) (laws_toLaneS_Q0_0 v0_0)) x0 x1 x2 := by kernel_rfl
theorem laws_toLaneS_EL0 (D : Den ctx) (n : Nat) (K : Ex → St → Option (Out ctx 82)) : ∀ (m : Nat) (x0 : List (ByteArray × List Int × Unit)) (x1 : Int) (x2 : List (ByteArray × List Int × Unit)), LQ funcTab D n 82 [.r, .r, .l, .r, .l] m (laws_toLaneS_Q0 x0 x1 x2) K = laws_toLaneS_L0 D n (fun v0_0 => K (Ex.exit 0) (laws_toLaneS_Q0_0 v0_0)) m x0 x1 x2
  | 0, x0, x1, x2 => LQ_zero ..
  | m + 1, x0, x1, x2 => by
    have ih : (fun x0 x1 x2 => LQ funcTab D n 82 [.r, .r, .l, .r, .l] m (laws_toLaneS_Q0 x0 x1 x2) K) = laws_toLaneS_L0 D n (fun v0_0 => K (Ex.exit 0) (laws_toLaneS_Q0_0 v0_0)) m := by funext x0 x1 x2; exact laws_toLaneS_EL0 D n K m x0 x1 x2
    rw [laws_toLaneS_SB0]
    rw [ih]; rfl
theorem laws_toLaneS_X0_0 (D : Den ctx) (n : Nat) (v0_0 : List (ByteArray × List Int × Unit)) :
  (CQ funcTab D n 82 [] [.r, .r, .l, .r, .l] (lastK funcTab 82)) (Ex.exit 0) (laws_toLaneS_Q0_0 v0_0) = laws_toLaneS_x0_0 D n v0_0 := by kernel_rfl
theorem laws_toLaneS_ELP0 (D : Den ctx) (n : Nat) (x0 : List (ByteArray × List Int × Unit)) (x1 : Int) (x2 : List (ByteArray × List Int × Unit)) :
  LQ funcTab D n 82 [.r, .r, .l, .r, .l] n (laws_toLaneS_Q0 x0 x1 x2) (CQ funcTab D n 82 [] [.r, .r, .l, .r, .l] (lastK funcTab 82)) = laws_toLaneS_LP0 D n x0 x1 x2 := by
  rw [laws_toLaneS_EL0]
  simp only [laws_toLaneS_X0_0]
  rfl
theorem E_laws_toLaneS (D : Den ctx) (n : Nat) (a0 : List (ByteArray × List Int × Unit)) : rfC funcTab D n 82 (a0, ()) = F_laws_toLaneS D n a0 := by
  have h : rfC funcTab D n 82 (a0, ()) = laws_toLaneS_e D n (fun x0 x1 x2 => LQ funcTab D n 82 [.r, .r, .l, .r, .l] n (laws_toLaneS_Q0 x0 x1 x2) (CQ funcTab D n 82 [] [.r, .r, .l, .r, .l] (lastK funcTab 82))) a0 := by kernel_rfl
  rw [h]
  simp only [laws_toLaneS_ELP0]
  rfl

end Go.G

/- G: functions of the program as told by V. No condition. Printed by a program of this session. -/
namespace Go.G
set_option linter.unusedVariables false
set_option maxRecDepth 100000
set_option maxHeartbeats 0
open Go Go.V
/- laws_eqLane -/
noncomputable def laws_eqLane_e (D : Den ctx) (n : Nat) (a0 : ByteArray × List Int × Unit) (a1 : ByteArray × List Int × Unit) : Option ((Bool × Unit) × Unit) :=
  br (!List.beq (ByteArray.toList (Prod.fst a0)) (ByteArray.toList (Prod.fst a1))) (some ((false, ()), ()))
    (bindD (C_laws_eqIntS D (Prod.fst (Prod.snd a0)) (Prod.fst (Prod.snd a1))) fun b ↦
      br (!Prod.fst (Prod.fst b)) (some ((false, ()), ())) (some ((true, ()), ())))
noncomputable def F_laws_eqLane (D : Den ctx) (n : Nat) (a0 : ByteArray × List Int × Unit) (a1 : ByteArray × List Int × Unit) : Option ((Bool × Unit) × Unit) := laws_eqLane_e D n a0 a1
theorem E_laws_eqLane (D : Den ctx) (n : Nat) (a0 : ByteArray × List Int × Unit) (a1 : ByteArray × List Int × Unit) : rfC funcTab D n 94 (a0, (a1, ())) = F_laws_eqLane D n a0 a1 := by kernel_rfl

end Go.G

/- G: functions of the program as told by V. No condition. Printed by a program of this session. -/
namespace Go.G
set_option linter.unusedVariables false
set_option maxRecDepth 100000
set_option maxHeartbeats 0
open Go Go.V
/- laws_szLane -/
noncomputable def laws_szLane_e (D : Den ctx) (n : Nat) (a0 : ByteArray × List Int × Unit) (a1 : Int) : Option ((Int × Unit) × Unit) :=
  br (decide (IntKind.wrap IntKind.i64 (a1 - (↑(ByteArray.size (Prod.fst a0)) : Int)) < 0)) (some ((-1, ()), ()))
    (bindD (C_laws_szIntS D (Prod.fst (Prod.snd a0)) (IntKind.wrap IntKind.i64 (a1 - (↑(ByteArray.size (Prod.fst a0)) : Int)))) fun b ↦
      br (decide (Prod.fst (Prod.fst b) < 0)) (some ((-1, ()), ())) (some ((Prod.fst (Prod.fst b), ()), ())))
noncomputable def F_laws_szLane (D : Den ctx) (n : Nat) (a0 : ByteArray × List Int × Unit) (a1 : Int) : Option ((Int × Unit) × Unit) := laws_szLane_e D n a0 a1
theorem E_laws_szLane (D : Den ctx) (n : Nat) (a0 : ByteArray × List Int × Unit) (a1 : Int) : rfC funcTab D n 97 (a0, (a1, ())) = F_laws_szLane D n a0 a1 := by kernel_rfl

end Go.G

/- G: functions of the program as told by V. No condition. Printed by a program of this session. -/
namespace Go.G
set_option linter.unusedVariables false
set_option maxRecDepth 100000
set_option maxHeartbeats 0
open Go Go.V
/- laws_toLane -/
noncomputable def laws_toLane_e (D : Den ctx) (n : Nat) (a0 : ByteArray × List Int × Unit) : Option (((ByteArray × List Int × Unit) × Unit) × Unit) :=
  bindD (C_laws_toIntS D (Prod.fst (Prod.snd a0))) fun b ↦ some (((Prod.fst a0, Prod.fst (Prod.fst b), ()), ()), ())
noncomputable def F_laws_toLane (D : Den ctx) (n : Nat) (a0 : ByteArray × List Int × Unit) : Option (((ByteArray × List Int × Unit) × Unit) × Unit) := laws_toLane_e D n a0
theorem E_laws_toLane (D : Den ctx) (n : Nat) (a0 : ByteArray × List Int × Unit) : rfC funcTab D n 100 (a0, ()) = F_laws_toLane D n a0 := by kernel_rfl

end Go.G

/- G: a function's denotation is its printed text. No condition. Printed by a program of this session. -/
namespace Go.G
set_option linter.unusedVariables false
set_option maxRecDepth 100000
open Go Go.V Go.Proofs
/-- the functions that are told by hand, if any -/
def XOk (X : Ext) : Prop := ∀ k : Nat, (Nat.beq k 55 || Nat.beq k 66 || Nat.beq k 86 || Nat.beq k 87) = false → X.is k = false
theorem noExt_ok : XOk noExt := fun _ _ => rfl
theorem S_laws_FnExactSkipNew {X : Ext} (hX : XOk X) (n : Nat) : C_laws_FnExactSkipNew (DD X (n + 1)) = F_laws_FnExactSkipNew (DD X n) n := (DD_succ X Try.func5 (by kernel_rfl) (hX 5 rfl) n _).trans (E_laws_FnExactSkipNew ..)
theorem S_spec_SkipNew {X : Ext} (hX : XOk X) (n : Nat) : C_spec_SkipNew (DD X (n + 1)) = F_spec_SkipNew (DD X n) n := (DD_succ X Try.func22 (by kernel_rfl) (hX 22 rfl) n _).trans (E_spec_SkipNew ..)
theorem S_impl_SkipNew {X : Ext} (hX : XOk X) (n : Nat) : C_impl_SkipNew (DD X (n + 1)) = F_impl_SkipNew (DD X n) n := (DD_succ X Try.func23 (by kernel_rfl) (hX 23 rfl) n _).trans (E_impl_SkipNew ..)
theorem S_laws_eqSkip {X : Ext} (hX : XOk X) (n : Nat) (a0 : List Int × List (ByteArray × List Int × Unit) × Unit) (a1 : List Int × List (ByteArray × List Int × Unit) × Unit) : C_laws_eqSkip (DD X (n + 1)) a0 a1 = F_laws_eqSkip (DD X n) n a0 a1 := (DD_succ X Try.func24 (by kernel_rfl) (hX 24 rfl) n _).trans (E_laws_eqSkip ..)
theorem S_laws_markSkip {X : Ext} (hX : XOk X) (n : Nat) (a0 : List Int × List (ByteArray × List Int × Unit) × Unit) (a1 : Int) : C_laws_markSkip (DD X (n + 1)) a0 a1 = F_laws_markSkip (DD X n) n a0 a1 := (DD_succ X Try.func25 (by kernel_rfl) (hX 25 rfl) n _).trans (E_laws_markSkip ..)
theorem S_laws_heldSkip {X : Ext} (hX : XOk X) (n : Nat) (a0 : List Int × List (ByteArray × List Int × Unit) × Unit) (a1 : Int) : C_laws_heldSkip (DD X (n + 1)) a0 a1 = F_laws_heldSkip (DD X n) n a0 a1 := (DD_succ X Try.func26 (by kernel_rfl) (hX 26 rfl) n _).trans (E_laws_heldSkip ..)
theorem S_laws_szSkip {X : Ext} (hX : XOk X) (n : Nat) (a0 : List Int × List (ByteArray × List Int × Unit) × Unit) (a1 : Int) : C_laws_szSkip (DD X (n + 1)) a0 a1 = F_laws_szSkip (DD X n) n a0 a1 := (DD_succ X Try.func37 (by kernel_rfl) (hX 37 rfl) n _).trans (E_laws_szSkip ..)
theorem S_laws_toSkip {X : Ext} (hX : XOk X) (n : Nat) (a0 : List Int × List (ByteArray × List Int × Unit) × Unit) : C_laws_toSkip (DD X (n + 1)) a0 = F_laws_toSkip (DD X n) n a0 := (DD_succ X Try.func39 (by kernel_rfl) (hX 39 rfl) n _).trans (E_laws_toSkip ..)
theorem S_laws_eqIntS {X : Ext} (hX : XOk X) (n : Nat) (a0 : List Int) (a1 : List Int) : C_laws_eqIntS (DD X (n + 1)) a0 a1 = F_laws_eqIntS (DD X n) n a0 a1 := (DD_succ X Try.func60 (by kernel_rfl) (hX 60 rfl) n _).trans (E_laws_eqIntS ..)
theorem S_laws_eqLaneS {X : Ext} (hX : XOk X) (n : Nat) (a0 : List (ByteArray × List Int × Unit)) (a1 : List (ByteArray × List Int × Unit)) : C_laws_eqLaneS (DD X (n + 1)) a0 a1 = F_laws_eqLaneS (DD X n) n a0 a1 := (DD_succ X Try.func61 (by kernel_rfl) (hX 61 rfl) n _).trans (E_laws_eqLaneS ..)
theorem S_laws_markIntS {X : Ext} (hX : XOk X) (n : Nat) (a0 : List Int) (a1 : Int) : C_laws_markIntS (DD X (n + 1)) a0 a1 = F_laws_markIntS (DD X n) n a0 a1 := (DD_succ X Try.func62 (by kernel_rfl) (hX 62 rfl) n _).trans (E_laws_markIntS ..)
theorem S_laws_markLaneS {X : Ext} (hX : XOk X) (n : Nat) (a0 : List (ByteArray × List Int × Unit)) (a1 : Int) : C_laws_markLaneS (DD X (n + 1)) a0 a1 = F_laws_markLaneS (DD X n) n a0 a1 := (DD_succ X Try.func63 (by kernel_rfl) (hX 63 rfl) n _).trans (E_laws_markLaneS ..)
theorem S_laws_heldIntS {X : Ext} (hX : XOk X) (n : Nat) (a0 : List Int) (a1 : Int) : C_laws_heldIntS (DD X (n + 1)) a0 a1 = F_laws_heldIntS (DD X n) n a0 a1 := (DD_succ X Try.func64 (by kernel_rfl) (hX 64 rfl) n _).trans (E_laws_heldIntS ..)
theorem S_laws_heldLaneS {X : Ext} (hX : XOk X) (n : Nat) (a0 : List (ByteArray × List Int × Unit)) (a1 : Int) : C_laws_heldLaneS (DD X (n + 1)) a0 a1 = F_laws_heldLaneS (DD X n) n a0 a1 := (DD_succ X Try.func65 (by kernel_rfl) (hX 65 rfl) n _).trans (E_laws_heldLaneS ..)
theorem S_laws_markText {X : Ext} (hX : XOk X) (n : Nat) (a0 : Int) : C_laws_markText (DD X (n + 1)) a0 = F_laws_markText (DD X n) n a0 := (DD_succ X Try.func70 (by kernel_rfl) (hX 70 rfl) n _).trans (E_laws_markText ..)
theorem S_laws_szIntS {X : Ext} (hX : XOk X) (n : Nat) (a0 : List Int) (a1 : Int) : C_laws_szIntS (DD X (n + 1)) a0 a1 = F_laws_szIntS (DD X n) n a0 a1 := (DD_succ X Try.func77 (by kernel_rfl) (hX 77 rfl) n _).trans (E_laws_szIntS ..)
theorem S_laws_szLaneS {X : Ext} (hX : XOk X) (n : Nat) (a0 : List (ByteArray × List Int × Unit)) (a1 : Int) : C_laws_szLaneS (DD X (n + 1)) a0 a1 = F_laws_szLaneS (DD X n) n a0 a1 := (DD_succ X Try.func78 (by kernel_rfl) (hX 78 rfl) n _).trans (E_laws_szLaneS ..)
theorem S_laws_toIntS {X : Ext} (hX : XOk X) (n : Nat) (a0 : List Int) : C_laws_toIntS (DD X (n + 1)) a0 = F_laws_toIntS (DD X n) n a0 := (DD_succ X Try.func81 (by kernel_rfl) (hX 81 rfl) n _).trans (E_laws_toIntS ..)
theorem S_laws_toLaneS {X : Ext} (hX : XOk X) (n : Nat) (a0 : List (ByteArray × List Int × Unit)) : C_laws_toLaneS (DD X (n + 1)) a0 = F_laws_toLaneS (DD X n) n a0 := (DD_succ X Try.func82 (by kernel_rfl) (hX 82 rfl) n _).trans (E_laws_toLaneS ..)
theorem S_laws_eqLane {X : Ext} (hX : XOk X) (n : Nat) (a0 : ByteArray × List Int × Unit) (a1 : ByteArray × List Int × Unit) : C_laws_eqLane (DD X (n + 1)) a0 a1 = F_laws_eqLane (DD X n) n a0 a1 := (DD_succ X Try.func94 (by kernel_rfl) (hX 94 rfl) n _).trans (E_laws_eqLane ..)
theorem S_laws_szLane {X : Ext} (hX : XOk X) (n : Nat) (a0 : ByteArray × List Int × Unit) (a1 : Int) : C_laws_szLane (DD X (n + 1)) a0 a1 = F_laws_szLane (DD X n) n a0 a1 := (DD_succ X Try.func97 (by kernel_rfl) (hX 97 rfl) n _).trans (E_laws_szLane ..)
theorem S_laws_toLane {X : Ext} (hX : XOk X) (n : Nat) (a0 : ByteArray × List Int × Unit) : C_laws_toLane (DD X (n + 1)) a0 = F_laws_toLane (DD X n) n a0 := (DD_succ X Try.func100 (by kernel_rfl) (hX 100 rfl) n _).trans (E_laws_toLane ..)
end Go.G


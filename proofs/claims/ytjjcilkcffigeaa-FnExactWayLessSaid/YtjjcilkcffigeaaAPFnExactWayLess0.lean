import Derived.Test.YtjjcilkcffigeaaAV3
/- G: calls, in short. No condition. Printed by a program of this session. -/
namespace Go.G
open Go Go.V
noncomputable def C_laws_FnExactWayLess (D : Den ctx) (a0 : ByteArray × ByteArray × Unit) (a1 : ByteArray × ByteArray × Unit) : Option ((Bool × Unit) × Unit) := D 3 (a0, (a1, ()))
noncomputable def C_laws_szWay (D : Den ctx) (a0 : ByteArray × ByteArray × Unit) (a1 : Int) : Option ((Int × Unit) × Unit) := D 16 (a0, (a1, ()))
noncomputable def C_spec_WayLess (D : Den ctx) (a0 : ByteArray × ByteArray × Unit) (a1 : ByteArray × ByteArray × Unit) : Option ((Bool × Unit) × Unit) := D 17 (a0, (a1, ()))
noncomputable def C_laws_toWay (D : Den ctx) (a0 : ByteArray × ByteArray × Unit) : Option (((ByteArray × ByteArray × Unit) × Unit) × Unit) := D 18 (a0, ())
noncomputable def C_impl_WayLess (D : Den ctx) (a0 : ByteArray × ByteArray × Unit) (a1 : ByteArray × ByteArray × Unit) : Option ((Bool × Unit) × Unit) := D 19 (a0, (a1, ()))

end Go.G

/- G: functions of the program as told by V. No condition. Printed by a program of this session. -/
namespace Go.G
set_option linter.unusedVariables false
set_option maxRecDepth 100000
set_option maxHeartbeats 0
open Go Go.V
/- laws_FnExactWayLess -/
noncomputable def laws_FnExactWayLess_e (D : Den ctx) (n : Nat) (a0 : ByteArray × ByteArray × Unit) (a1 : ByteArray × ByteArray × Unit) : Option ((Bool × Unit) × Unit) :=
  bindD (C_laws_szWay D a0 1048576) fun b ↦
    br (decide (Prod.fst (Prod.fst b) < 0)) (some ((true, ()), ()))
      (bindD (C_laws_szWay D a1 (Prod.fst (Prod.fst b))) fun b ↦
        br (decide (Prod.fst (Prod.fst b) < 0)) (some ((true, ()), ()))
          (bindD (C_laws_toWay D a0) fun b ↦
            bindD (C_laws_toWay D a1) fun b_1 ↦
              bindD (C_spec_WayLess D (Prod.fst (Prod.fst b)) (Prod.fst (Prod.fst b_1))) fun b ↦
                bindD (C_laws_toWay D a0) fun b_2 ↦
                  bindD (C_laws_toWay D a1) fun b_3 ↦
                    bindD (C_impl_WayLess D (Prod.fst (Prod.fst b_2)) (Prod.fst (Prod.fst b_3))) fun b_4 ↦
                      br (!decide (Prod.fst (Prod.fst b_4) = Prod.fst (Prod.fst b))) (some ((false, ()), ())) (some ((true, ()), ()))))
noncomputable def F_laws_FnExactWayLess (D : Den ctx) (n : Nat) (a0 : ByteArray × ByteArray × Unit) (a1 : ByteArray × ByteArray × Unit) : Option ((Bool × Unit) × Unit) := laws_FnExactWayLess_e D n a0 a1
theorem E_laws_FnExactWayLess (D : Den ctx) (n : Nat) (a0 : ByteArray × ByteArray × Unit) (a1 : ByteArray × ByteArray × Unit) : rfC funcTab D n 3 (a0, (a1, ())) = F_laws_FnExactWayLess D n a0 a1 := by kernel_rfl

end Go.G

/- G: functions of the program as told by V. No condition. Printed by a program of this session. -/
namespace Go.G
set_option linter.unusedVariables false
set_option maxRecDepth 100000
set_option maxHeartbeats 0
open Go Go.V
/- laws_szWay -/
noncomputable def laws_szWay_e (D : Den ctx) (n : Nat) (a0 : ByteArray × ByteArray × Unit) (a1 : Int) : Option ((Int × Unit) × Unit) :=
  br (decide (IntKind.wrap IntKind.i64 (a1 - (↑(ByteArray.size (Prod.fst a0)) : Int)) < 0)) (some ((-1, ()), ()))
    (br
      (decide
        (IntKind.wrap IntKind.i64
            (IntKind.wrap IntKind.i64 (a1 - (↑(ByteArray.size (Prod.fst a0)) : Int)) - (↑(ByteArray.size (Prod.fst (Prod.snd a0))) : Int)) <
          0))
      (some ((-1, ()), ()))
      (some
        ((IntKind.wrap IntKind.i64
              (IntKind.wrap IntKind.i64 (a1 - (↑(ByteArray.size (Prod.fst a0)) : Int)) - (↑(ByteArray.size (Prod.fst (Prod.snd a0))) : Int)),
            ()),
          ())))
noncomputable def F_laws_szWay (D : Den ctx) (n : Nat) (a0 : ByteArray × ByteArray × Unit) (a1 : Int) : Option ((Int × Unit) × Unit) := laws_szWay_e D n a0 a1
theorem E_laws_szWay (D : Den ctx) (n : Nat) (a0 : ByteArray × ByteArray × Unit) (a1 : Int) : rfC funcTab D n 16 (a0, (a1, ())) = F_laws_szWay D n a0 a1 := by kernel_rfl

end Go.G

/- G: functions of the program as told by V. No condition. Printed by a program of this session. -/
namespace Go.G
set_option linter.unusedVariables false
set_option maxRecDepth 100000
set_option maxHeartbeats 0
open Go Go.V
/- spec_WayLess -/
noncomputable def spec_WayLess_e (D : Den ctx) (n : Nat) (a0 : ByteArray × ByteArray × Unit) (a1 : ByteArray × ByteArray × Unit) : Option ((Bool × Unit) × Unit) :=
  some
    ((bif Op.bytesLess (ByteArray.toList (Prod.fst a0)) (ByteArray.toList (Prod.fst a1)) then true
        else
          bif List.beq (ByteArray.toList (Prod.fst a0)) (ByteArray.toList (Prod.fst a1)) then
            Op.bytesLess (ByteArray.toList (Prod.fst (Prod.snd a0))) (ByteArray.toList (Prod.fst (Prod.snd a1)))
          else false,
        ()),
      ())
noncomputable def F_spec_WayLess (D : Den ctx) (n : Nat) (a0 : ByteArray × ByteArray × Unit) (a1 : ByteArray × ByteArray × Unit) : Option ((Bool × Unit) × Unit) := spec_WayLess_e D n a0 a1
theorem E_spec_WayLess (D : Den ctx) (n : Nat) (a0 : ByteArray × ByteArray × Unit) (a1 : ByteArray × ByteArray × Unit) : rfC funcTab D n 17 (a0, (a1, ())) = F_spec_WayLess D n a0 a1 := by kernel_rfl

end Go.G

/- G: functions of the program as told by V. No condition. Printed by a program of this session. -/
namespace Go.G
set_option linter.unusedVariables false
set_option maxRecDepth 100000
set_option maxHeartbeats 0
open Go Go.V
/- laws_toWay -/
noncomputable def laws_toWay_e (D : Den ctx) (n : Nat) (a0 : ByteArray × ByteArray × Unit) : Option (((ByteArray × ByteArray × Unit) × Unit) × Unit) :=
  some (((Prod.fst a0, Prod.fst (Prod.snd a0), ()), ()), ())
noncomputable def F_laws_toWay (D : Den ctx) (n : Nat) (a0 : ByteArray × ByteArray × Unit) : Option (((ByteArray × ByteArray × Unit) × Unit) × Unit) := laws_toWay_e D n a0
theorem E_laws_toWay (D : Den ctx) (n : Nat) (a0 : ByteArray × ByteArray × Unit) : rfC funcTab D n 18 (a0, ()) = F_laws_toWay D n a0 := by kernel_rfl

end Go.G

/- G: functions of the program as told by V. No condition. Printed by a program of this session. -/
namespace Go.G
set_option linter.unusedVariables false
set_option maxRecDepth 100000
set_option maxHeartbeats 0
open Go Go.V
/- impl_WayLess -/
noncomputable def impl_WayLess_e (D : Den ctx) (n : Nat) (a0 : ByteArray × ByteArray × Unit) (a1 : ByteArray × ByteArray × Unit) : Option ((Bool × Unit) × Unit) :=
  some
    ((bif Op.bytesLess (ByteArray.toList (Prod.fst a0)) (ByteArray.toList (Prod.fst a1)) then true
        else
          bif List.beq (ByteArray.toList (Prod.fst a0)) (ByteArray.toList (Prod.fst a1)) then
            Op.bytesLess (ByteArray.toList (Prod.fst (Prod.snd a0))) (ByteArray.toList (Prod.fst (Prod.snd a1)))
          else false,
        ()),
      ())
noncomputable def F_impl_WayLess (D : Den ctx) (n : Nat) (a0 : ByteArray × ByteArray × Unit) (a1 : ByteArray × ByteArray × Unit) : Option ((Bool × Unit) × Unit) := impl_WayLess_e D n a0 a1
theorem E_impl_WayLess (D : Den ctx) (n : Nat) (a0 : ByteArray × ByteArray × Unit) (a1 : ByteArray × ByteArray × Unit) : rfC funcTab D n 19 (a0, (a1, ())) = F_impl_WayLess D n a0 a1 := by kernel_rfl

end Go.G

/- G: a function's denotation is its printed text. No condition. Printed by a program of this session. -/
namespace Go.G
set_option linter.unusedVariables false
set_option maxRecDepth 100000
open Go Go.V Go.Proofs
/-- the functions that are told by hand, if any -/
def XOk (X : Ext) : Prop := ∀ k : Nat, (Nat.beq k 55 || Nat.beq k 66 || Nat.beq k 71 || Nat.beq k 86 || Nat.beq k 87) = false → X.is k = false
theorem noExt_ok : XOk noExt := fun _ _ => rfl
theorem S_laws_FnExactWayLess {X : Ext} (hX : XOk X) (n : Nat) (a0 : ByteArray × ByteArray × Unit) (a1 : ByteArray × ByteArray × Unit) : C_laws_FnExactWayLess (DD X (n + 1)) a0 a1 = F_laws_FnExactWayLess (DD X n) n a0 a1 := (DD_succ X Try.func3 (by kernel_rfl) (hX 3 rfl) n _).trans (E_laws_FnExactWayLess ..)
theorem S_laws_szWay {X : Ext} (hX : XOk X) (n : Nat) (a0 : ByteArray × ByteArray × Unit) (a1 : Int) : C_laws_szWay (DD X (n + 1)) a0 a1 = F_laws_szWay (DD X n) n a0 a1 := (DD_succ X Try.func16 (by kernel_rfl) (hX 16 rfl) n _).trans (E_laws_szWay ..)
theorem S_spec_WayLess {X : Ext} (hX : XOk X) (n : Nat) (a0 : ByteArray × ByteArray × Unit) (a1 : ByteArray × ByteArray × Unit) : C_spec_WayLess (DD X (n + 1)) a0 a1 = F_spec_WayLess (DD X n) n a0 a1 := (DD_succ X Try.func17 (by kernel_rfl) (hX 17 rfl) n _).trans (E_spec_WayLess ..)
theorem S_laws_toWay {X : Ext} (hX : XOk X) (n : Nat) (a0 : ByteArray × ByteArray × Unit) : C_laws_toWay (DD X (n + 1)) a0 = F_laws_toWay (DD X n) n a0 := (DD_succ X Try.func18 (by kernel_rfl) (hX 18 rfl) n _).trans (E_laws_toWay ..)
theorem S_impl_WayLess {X : Ext} (hX : XOk X) (n : Nat) (a0 : ByteArray × ByteArray × Unit) (a1 : ByteArray × ByteArray × Unit) : C_impl_WayLess (DD X (n + 1)) a0 a1 = F_impl_WayLess (DD X n) n a0 a1 := (DD_succ X Try.func19 (by kernel_rfl) (hX 19 rfl) n _).trans (E_impl_WayLess ..)
end Go.G


import Derived.Test.YtjjcilkcffigeaaAV3
set_option linter.unusedVariables false
set_option linter.unusedSimpArgs false
set_option linter.unusedSectionVars false
namespace Go.G
open Go Go.V
noncomputable def C_laws_FnSkipSeeks (D : Den ctx) (a0 : List Int) : Option ((Bool × Unit) × Unit) := D 13 (a0, ())
noncomputable def C_spec_HeightOf (D : Den ctx) (a0 : ByteArray) : Option ((Int × Unit) × Unit) := D 20 (a0, ())
noncomputable def C_impl_HeightOf (D : Den ctx) (a0 : ByteArray) : Option ((Int × Unit) × Unit) := D 21 (a0, ())
noncomputable def C_spec_SkipNew (D : Den ctx) : Option (((List Int × List (ByteArray × List Int × Unit) × Unit) × Unit) × Unit) := D 22 ()
noncomputable def C_impl_SkipNew (D : Den ctx) : Option (((List Int × List (ByteArray × List Int × Unit) × Unit) × Unit) × Unit) := D 23 ()
noncomputable def C_laws_eqSkip (D : Den ctx) (a0 : List Int × List (ByteArray × List Int × Unit) × Unit) (a1 : List Int × List (ByteArray × List Int × Unit) × Unit) : Option ((Bool × Unit) × Unit) := D 24 (a0, (a1, ()))
noncomputable def C_laws_markSkip (D : Den ctx) (a0 : List Int × List (ByteArray × List Int × Unit) × Unit) (a1 : Int) : Option ((Int × Unit) × (List Int × List (ByteArray × List Int × Unit) × Unit) × Unit) := D 25 (a0, (a1, ()))
noncomputable def C_laws_heldSkip (D : Den ctx) (a0 : List Int × List (ByteArray × List Int × Unit) × Unit) (a1 : Int) : Option ((Int × Unit) × Unit) := D 26 (a0, (a1, ()))
noncomputable def C_laws_big (D : Den ctx) (a0 : List Int) : Option ((Bool × Unit) × Unit) := D 34 (a0, ())
noncomputable def C_spec_DrawHeightOf (D : Den ctx) (a0 : List Int) : Option ((ByteArray × Unit) × Unit) := D 35 (a0, ())
noncomputable def C_impl_SkipPut (D : Den ctx) (a0 : List Int × List (ByteArray × List Int × Unit) × Unit) (a1 : ByteArray) : Option (((List Int × List (ByteArray × List Int × Unit) × Unit) × Bool × Unit) × Unit) := D 36 (a0, (a1, ()))
noncomputable def C_laws_szSkip (D : Den ctx) (a0 : List Int × List (ByteArray × List Int × Unit) × Unit) (a1 : Int) : Option ((Int × Unit) × Unit) := D 37 (a0, (a1, ()))
noncomputable def C_spec_SkipOk (D : Den ctx) (a0 : List Int × List (ByteArray × List Int × Unit) × Unit) : Option ((Bool × Unit) × Unit) := D 38 (a0, ())
noncomputable def C_laws_toSkip (D : Den ctx) (a0 : List Int × List (ByteArray × List Int × Unit) × Unit) : Option (((List Int × List (ByteArray × List Int × Unit) × Unit) × Unit) × Unit) := D 39 (a0, ())
noncomputable def C_impl_SkipOk (D : Den ctx) (a0 : List Int × List (ByteArray × List Int × Unit) × Unit) : Option ((Bool × Unit) × Unit) := D 40 (a0, ())
noncomputable def C_spec_DrawSkipAll (D : Den ctx) (a0 : List Int) : Option (((List Int × List (ByteArray × List Int × Unit) × Unit) × Unit) × Unit) := D 43 (a0, ())
noncomputable def C_impl_SkipAll (D : Den ctx) (a0 : List Int × List (ByteArray × List Int × Unit) × Unit) : Option ((List ByteArray × Unit) × Unit) := D 44 (a0, ())
noncomputable def C_spec_SkipAll (D : Den ctx) (a0 : List Int × List (ByteArray × List Int × Unit) × Unit) : Option ((List ByteArray × Unit) × Unit) := D 45 (a0, ())
noncomputable def C_spec_SkipSeek (D : Den ctx) (a0 : List Int × List (ByteArray × List Int × Unit) × Unit) (a1 : ByteArray) : Option ((ByteArray × Int × Bool × Unit) × Unit) := D 46 (a0, (a1, ()))
noncomputable def C_impl_SkipSeek (D : Den ctx) (a0 : List Int × List (ByteArray × List Int × Unit) × Unit) (a1 : ByteArray) : Option ((ByteArray × Int × Bool × Unit) × Unit) := D 47 (a0, (a1, ()))
noncomputable def C_laws_eqStringS (D : Den ctx) (a0 : List ByteArray) (a1 : List ByteArray) : Option ((Bool × Unit) × Unit) := D 48 (a0, (a1, ()))
noncomputable def C_laws_markStringS (D : Den ctx) (a0 : List ByteArray) (a1 : Int) : Option ((Int × Unit) × List ByteArray × Unit) := D 49 (a0, (a1, ()))
noncomputable def C_laws_heldStringS (D : Den ctx) (a0 : List ByteArray) (a1 : Int) : Option ((Int × Unit) × Unit) := D 50 (a0, (a1, ()))
noncomputable def C_spec_DrawSkipSeek (D : Den ctx) (a0 : List Int) : Option (((List Int × List (ByteArray × List Int × Unit) × Unit) × ByteArray × Unit) × Unit) := D 51 (a0, ())
noncomputable def C_spec_SkipPut (D : Den ctx) (a0 : List Int × List (ByteArray × List Int × Unit) × Unit) (a1 : ByteArray) : Option (((List Int × List (ByteArray × List Int × Unit) × Unit) × Bool × Unit) × Unit) := D 53 (a0, (a1, ()))
noncomputable def C_spec_SkipDel (D : Den ctx) (a0 : List Int × List (ByteArray × List Int × Unit) × Unit) (a1 : ByteArray) : Option (((List Int × List (ByteArray × List Int × Unit) × Unit) × Bool × Unit) × Unit) := D 56 (a0, (a1, ()))
noncomputable def C_laws_eqIntS (D : Den ctx) (a0 : List Int) (a1 : List Int) : Option ((Bool × Unit) × Unit) := D 60 (a0, (a1, ()))
noncomputable def C_laws_eqLaneS (D : Den ctx) (a0 : List (ByteArray × List Int × Unit)) (a1 : List (ByteArray × List Int × Unit)) : Option ((Bool × Unit) × Unit) := D 61 (a0, (a1, ()))
noncomputable def C_laws_markIntS (D : Den ctx) (a0 : List Int) (a1 : Int) : Option ((Int × Unit) × List Int × Unit) := D 62 (a0, (a1, ()))
noncomputable def C_laws_markLaneS (D : Den ctx) (a0 : List (ByteArray × List Int × Unit)) (a1 : Int) : Option ((Int × Unit) × List (ByteArray × List Int × Unit) × Unit) := D 63 (a0, (a1, ()))
noncomputable def C_laws_heldIntS (D : Den ctx) (a0 : List Int) (a1 : Int) : Option ((Int × Unit) × Unit) := D 64 (a0, (a1, ()))
noncomputable def C_laws_heldLaneS (D : Den ctx) (a0 : List (ByteArray × List Int × Unit)) (a1 : Int) : Option ((Int × Unit) × Unit) := D 65 (a0, (a1, ()))
noncomputable def C_laws_markText (D : Den ctx) (a0 : Int) : Option ((ByteArray × Unit) × Unit) := D 70 (a0, ())
noncomputable def C_spec_l20DrawKey (D : Den ctx) (a0 : List Int × Int × Int × Unit) : Option ((ByteArray × Unit) × (List Int × Int × Int × Unit) × Unit) := D 71 (a0, ())
noncomputable def C_spec_l1New (D : Den ctx) (a0 : List Int) : Option (((List Int × Int × Int × Unit) × Unit) × Unit) := D 72 (a0, ())
noncomputable def C_impl_copySkip (D : Den ctx) (a0 : List Int × List (ByteArray × List Int × Unit) × Unit) : Option (((List Int × List (ByteArray × List Int × Unit) × Unit) × Unit) × Unit) := D 73 (a0, ())
noncomputable def C_impl_ahead (D : Den ctx) (a0 : List Int × List (ByteArray × List Int × Unit) × Unit) (a1 : ByteArray) : Option ((List Int × Int × Unit) × Unit) := D 74 (a0, (a1, ()))
noncomputable def C_impl_Skip_after (D : Den ctx) (a0 : List Int × List (ByteArray × List Int × Unit) × Unit) (a1 : Int) (a2 : Int) : Option ((Int × Unit) × Unit) := D 75 (a0, (a1, (a2, ())))
noncomputable def C_impl_Skip_link (D : Den ctx) (a0 : List Int × List (ByteArray × List Int × Unit) × Unit) (a1 : Int) (a2 : Int) (a3 : Int) : Option (Unit × (List Int × List (ByteArray × List Int × Unit) × Unit) × Unit) := D 76 (a0, (a1, (a2, (a3, ()))))
noncomputable def C_laws_szIntS (D : Den ctx) (a0 : List Int) (a1 : Int) : Option ((Int × Unit) × Unit) := D 77 (a0, (a1, ()))
noncomputable def C_laws_szLaneS (D : Den ctx) (a0 : List (ByteArray × List Int × Unit)) (a1 : Int) : Option ((Int × Unit) × Unit) := D 78 (a0, (a1, ()))
noncomputable def C_spec_l20Lane (D : Den ctx) (a0 : List Int × List (ByteArray × List Int × Unit) × Unit) (a1 : Int) : Option ((List Int × Bool × Unit) × Unit) := D 79 (a0, (a1, ()))
noncomputable def C_spec_l20In (D : Den ctx) (a0 : List Int) (a1 : Int) : Option ((Int × Unit) × Unit) := D 80 (a0, (a1, ()))
noncomputable def C_laws_toIntS (D : Den ctx) (a0 : List Int) : Option ((List Int × Unit) × Unit) := D 81 (a0, ())
noncomputable def C_laws_toLaneS (D : Den ctx) (a0 : List (ByteArray × List Int × Unit)) : Option ((List (ByteArray × List Int × Unit) × Unit) × Unit) := D 82 (a0, ())
noncomputable def C_impl_laneOf (D : Den ctx) (a0 : List Int × List (ByteArray × List Int × Unit) × Unit) (a1 : Int) : Option ((List Int × Bool × Unit) × Unit) := D 83 (a0, (a1, ()))
noncomputable def C_spec_l20Draw (D : Den ctx) (a0 : List Int × Int × Int × Unit) : Option (((List Int × List (ByteArray × List Int × Unit) × Unit) × Unit) × (List Int × Int × Int × Unit) × Unit) := D 87 (a0, ())
noncomputable def C_spec_l20Next (D : Den ctx) (a0 : List Int × List (ByteArray × List Int × Unit) × Unit) (a1 : Int) (a2 : Int) : Option ((Int × Unit) × Unit) := D 88 (a0, (a1, (a2, ())))
noncomputable def C_spec_l20Copy (D : Den ctx) (a0 : List Int × List (ByteArray × List Int × Unit) × Unit) : Option (((List Int × List (ByteArray × List Int × Unit) × Unit) × Unit) × Unit) := D 89 (a0, ())
noncomputable def C_spec_l20Has (D : Den ctx) (a0 : List Int × List (ByteArray × List Int × Unit) × Unit) (a1 : ByteArray) : Option ((Int × Unit) × Unit) := D 90 (a0, (a1, ()))
noncomputable def C_spec_l20Before (D : Den ctx) (a0 : List Int × List (ByteArray × List Int × Unit) × Unit) (a1 : Int) (a2 : ByteArray) : Option ((Int × Unit) × Unit) := D 91 (a0, (a1, (a2, ())))
noncomputable def C_spec_l20Set (D : Den ctx) (a0 : List Int × List (ByteArray × List Int × Unit) × Unit) (a1 : Int) (a2 : Int) (a3 : Int) : Option (Unit × (List Int × List (ByteArray × List Int × Unit) × Unit) × Unit) := D 92 (a0, (a1, (a2, (a3, ()))))
noncomputable def C_laws_eqLane (D : Den ctx) (a0 : ByteArray × List Int × Unit) (a1 : ByteArray × List Int × Unit) : Option ((Bool × Unit) × Unit) := D 94 (a0, (a1, ()))
noncomputable def C_spec_l1Pick (D : Den ctx) (a0 : List Int × Int × Int × Unit) (a1 : List ByteArray) : Option ((ByteArray × Unit) × (List Int × Int × Int × Unit) × Unit) := D 95 (a0, (a1, ()))
noncomputable def C_slices_Clone_int_int (D : Den ctx) (a0 : List Int) : Option ((List Int × Unit) × Unit) := D 96 (a0, ())
noncomputable def C_laws_szLane (D : Den ctx) (a0 : ByteArray × List Int × Unit) (a1 : Int) : Option ((Int × Unit) × Unit) := D 97 (a0, (a1, ()))
noncomputable def C_spec_l1In (D : Den ctx) (a0 : Int) (a1 : Int) (a2 : Int) : Option ((Bool × Unit) × Unit) := D 98 (a0, (a1, (a2, ())))
noncomputable def C_spec_l1Bit (D : Den ctx) (a0 : Bool) : Option ((Int × Unit) × Unit) := D 99 (a0, ())
noncomputable def C_laws_toLane (D : Den ctx) (a0 : ByteArray × List Int × Unit) : Option (((ByteArray × List Int × Unit) × Unit) × Unit) := D 100 (a0, ())
noncomputable def C_impl_from (D : Den ctx) (a0 : Int) (a1 : Int) (a2 : Int) : Option ((Bool × Unit) × Unit) := D 101 (a0, (a1, (a2, ())))
noncomputable def C_spec_l20DrawRight (D : Den ctx) (a0 : List Int × Int × Int × Unit) : Option (((List Int × List (ByteArray × List Int × Unit) × Unit) × Unit) × (List Int × Int × Int × Unit) × Unit) := D 104 (a0, ())
noncomputable def C_spec_l1Below (D : Den ctx) (a0 : List Int × Int × Int × Unit) (a1 : Int) : Option ((Int × Unit) × (List Int × Int × Int × Unit) × Unit) := D 105 (a0, (a1, ()))
noncomputable def C_spec_l1Once (D : Den ctx) (a0 : List Int × Int × Int × Unit) (a1 : Int) : Option ((Bool × Unit) × (List Int × Int × Int × Unit) × Unit) := D 107 (a0, (a1, ()))
noncomputable def C_spec_l1Byte (D : Den ctx) (a0 : List Int × Int × Int × Unit) : Option ((Int × Unit) × (List Int × Int × Int × Unit) × Unit) := D 108 (a0, ())
end Go.G

namespace Go.G
set_option maxRecDepth 100000
set_option maxHeartbeats 0
open Go Go.V
noncomputable def laws_FnSkipSeeks_b0 (D : Den ctx) (n : Nat) (go : ByteArray → ByteArray → Int → Bool → Int → List ByteArray → Option ((Bool × Unit) × Unit)) (K0 : Bool → Int → Bool → List ByteArray → Option ((Bool × Unit) × Unit)) (K1 : Int → Bool → List ByteArray → Option ((Bool × Unit) × Unit)) (x0 : ByteArray) (x1 : ByteArray) (x2 : Int) (x3 : Bool) (x4 : Int) (x5 : List ByteArray) : Option ((Bool × Unit) × Unit) := br (decide (x4 < (↑(List.length x5) : Int))) (br (decide (0 ≤ x4) && decide (x4 < (↑(List.length x5) : Int))) (br (!Op.bytesLess (ByteArray.toList (List.getD x5 (Int.toNat x4) ByteArray.empty)) (ByteArray.toList x0)) (br x3 (br (decide (0 ≤ x4) && decide (x4 < (↑(List.length x5) : Int))) (br (List.beq (ByteArray.toList x1) (ByteArray.toList (List.getD x5 (Int.toNat x4) ByteArray.empty))) (K0 (decide (x2 ≤ IntKind.wrap IntKind.i64 ((↑(List.length x5) : Int) + 4))) x2 x3 x5) (K0 false x2 x3 x5)) none) (K0 false x2 x3 x5)) (go x0 x1 x2 x3 (IntKind.wrap IntKind.i64 (x4 + 1)) x5)) none) (K1 x2 x3 x5)
noncomputable def laws_FnSkipSeeks_L0 (D : Den ctx) (n : Nat) (K0 : Bool → Int → Bool → List ByteArray → Option ((Bool × Unit) × Unit)) (K1 : Int → Bool → List ByteArray → Option ((Bool × Unit) × Unit)) : Nat → (ByteArray) → (ByteArray) → (Int) → (Bool) → (Int) → (List ByteArray) → Option ((Bool × Unit) × Unit) | 0 => (fun x0 x1 x2 x3 x4 x5 => none) | m + 1 => (fun x0 x1 x2 x3 x4 x5 => laws_FnSkipSeeks_b0 D n (laws_FnSkipSeeks_L0 D n K0 K1 m) K0 K1 x0 x1 x2 x3 x4 x5)
noncomputable def laws_FnSkipSeeks_x0_0 (D : Den ctx) (n : Nat) (v0_0 : Bool) (v0_1 : Int) (v0_2 : Bool) (v0_3 : List ByteArray) : Option ((Bool × Unit) × Unit) := some ((v0_0, ()), ())
noncomputable def laws_FnSkipSeeks_x0_1 (D : Den ctx) (n : Nat) (v1_0 : Int) (v1_1 : Bool) (v1_2 : List ByteArray) : Option ((Bool × Unit) × Unit) := br (!v1_1) (some ((decide (v1_0 ≤ IntKind.wrap IntKind.i64 ((↑(List.length v1_2) : Int) + 4)), ()), ())) (some ((false, ()), ()))
noncomputable def laws_FnSkipSeeks_LP0 (D : Den ctx) (n : Nat) : (ByteArray) → (ByteArray) → (Int) → (Bool) → (Int) → (List ByteArray) → Option ((Bool × Unit) × Unit) := (fun x0 x1 x2 x3 x4 x5 => laws_FnSkipSeeks_L0 D n (fun v0_0 v0_1 v0_2 v0_3 => laws_FnSkipSeeks_x0_0 D n v0_0 v0_1 v0_2 v0_3) (fun v1_0 v1_1 v1_2 => laws_FnSkipSeeks_x0_1 D n v1_0 v1_1 v1_2) n x0 x1 x2 x3 x4 x5)
noncomputable def laws_FnSkipSeeks_e (D : Den ctx) (n : Nat) (lp0 : ByteArray → ByteArray → Int → Bool → Int → List ByteArray → Option ((Bool × Unit) × Unit)) (a0 : List Int) : Option ((Bool × Unit) × Unit) := bindD (C_laws_big D a0) fun b ↦ br (Prod.fst (Prod.fst b)) (some ((true, ()), ())) (bindD (C_spec_DrawSkipSeek D a0) fun b ↦ bindD (C_impl_SkipSeek D (Prod.fst (Prod.fst (Prod.fst b)), Prod.fst (Prod.snd (Prod.fst (Prod.fst b))), ()) (Prod.fst (Prod.snd (Prod.fst b)))) fun b_1 ↦ bindD (C_spec_SkipSeek D (Prod.fst (Prod.fst (Prod.fst b)), Prod.fst (Prod.snd (Prod.fst (Prod.fst b))), ()) (Prod.fst (Prod.snd (Prod.fst b)))) fun b_2 ↦ br (bif bif !List.beq (ByteArray.toList (Prod.fst (Prod.fst b_1))) (ByteArray.toList (Prod.fst (Prod.fst b_2))) then true else Prod.fst (Prod.snd (Prod.fst b_1)) != Prod.fst (Prod.snd (Prod.fst b_2)) then true else !decide (Prod.fst (Prod.snd (Prod.snd (Prod.fst b_1))) = Prod.fst (Prod.snd (Prod.snd (Prod.fst b_2))))) (some ((false, ()), ())) (bindD (C_impl_SkipAll D (Prod.fst (Prod.fst (Prod.fst b)), Prod.fst (Prod.snd (Prod.fst (Prod.fst b))), ())) fun b_3 ↦ lp0 (Prod.fst (Prod.snd (Prod.fst b))) (Prod.fst (Prod.fst b_1)) (Prod.fst (Prod.snd (Prod.fst b_1))) (Prod.fst (Prod.snd (Prod.snd (Prod.fst b_1)))) 0 (Prod.fst (Prod.fst b_3))))
noncomputable def F_laws_FnSkipSeeks (D : Den ctx) (n : Nat) (a0 : List Int) : Option ((Bool × Unit) × Unit) := laws_FnSkipSeeks_e D n (laws_FnSkipSeeks_LP0 D n) a0
def laws_FnSkipSeeks_Q0 (x0 : ByteArray) (x1 : ByteArray) (x2 : Int) (x3 : Bool) (x4 : Int) (x5 : List ByteArray) : St := stq 86 [(4, AV.val Ty.str x0), (5, AV.val Ty.str x1), (6, AV.val (Ty.int IntKind.i64) x2), (7, AV.val Ty.bool x3), (11, AV.brw 11 [] 0), (12, AV.val (Ty.int IntKind.i64) x4)] [(11, Root.mk (Ty.sl Ty.str) (Mk.own 0 Mk.no) x5 false)]
def laws_FnSkipSeeks_Q0_0 (v0_0 : Bool) (v0_1 : Int) (v0_2 : Bool) (v0_3 : List ByteArray) : St := stq 86 [(2, AV.val Ty.bool v0_0), (6, AV.val (Ty.int IntKind.i64) v0_1), (7, AV.val Ty.bool v0_2), (11, AV.brw 11 [] 0)] [(11, Root.mk (Ty.sl Ty.str) (Mk.own 0 Mk.no) v0_3 false)]
def laws_FnSkipSeeks_Q0_1 (v1_0 : Int) (v1_1 : Bool) (v1_2 : List ByteArray) : St := stq 86 [(6, AV.val (Ty.int IntKind.i64) v1_0), (7, AV.val Ty.bool v1_1), (11, AV.brw 11 [] 0)] [(11, Root.mk (Ty.sl Ty.str) (Mk.own 0 Mk.no) v1_2 false)]
theorem laws_FnSkipSeeks_SB0 (D : Den ctx) (n : Nat) (m : Nat) (K : Ex → St → Option (Out ctx 13)) (x0 : ByteArray) (x1 : ByteArray) (x2 : Int) (x3 : Bool) (x4 : Int) (x5 : List ByteArray) :
  LQ funcTab D n 13 [.r, .r, .r, .r, .r, .r, .r, .l, .r, .l] (m + 1) (laws_FnSkipSeeks_Q0 x0 x1 x2 x3 x4 x5) K = laws_FnSkipSeeks_b0 D n (fun x0 x1 x2 x3 x4 x5 => LQ funcTab D n 13 [.r, .r, .r, .r, .r, .r, .r, .l, .r, .l] m (laws_FnSkipSeeks_Q0 x0 x1 x2 x3 x4 x5) K) (fun v0_0 v0_1 v0_2 v0_3 => K (Ex.ret) (laws_FnSkipSeeks_Q0_0 v0_0 v0_1 v0_2 v0_3)) (fun v1_0 v1_1 v1_2 => K (Ex.exit 0) (laws_FnSkipSeeks_Q0_1 v1_0 v1_1 v1_2)) x0 x1 x2 x3 x4 x5 := by kernel_rfl
theorem laws_FnSkipSeeks_EL0 (D : Den ctx) (n : Nat) (K : Ex → St → Option (Out ctx 13)) : ∀ (m : Nat) (x0 : ByteArray) (x1 : ByteArray) (x2 : Int) (x3 : Bool) (x4 : Int) (x5 : List ByteArray), LQ funcTab D n 13 [.r, .r, .r, .r, .r, .r, .r, .l, .r, .l] m (laws_FnSkipSeeks_Q0 x0 x1 x2 x3 x4 x5) K = laws_FnSkipSeeks_L0 D n (fun v0_0 v0_1 v0_2 v0_3 => K (Ex.ret) (laws_FnSkipSeeks_Q0_0 v0_0 v0_1 v0_2 v0_3)) (fun v1_0 v1_1 v1_2 => K (Ex.exit 0) (laws_FnSkipSeeks_Q0_1 v1_0 v1_1 v1_2)) m x0 x1 x2 x3 x4 x5
  | 0, x0, x1, x2, x3, x4, x5 => LQ_zero ..
  | m + 1, x0, x1, x2, x3, x4, x5 => by
    have ih : (fun x0 x1 x2 x3 x4 x5 => LQ funcTab D n 13 [.r, .r, .r, .r, .r, .r, .r, .l, .r, .l] m (laws_FnSkipSeeks_Q0 x0 x1 x2 x3 x4 x5) K) = laws_FnSkipSeeks_L0 D n (fun v0_0 v0_1 v0_2 v0_3 => K (Ex.ret) (laws_FnSkipSeeks_Q0_0 v0_0 v0_1 v0_2 v0_3)) (fun v1_0 v1_1 v1_2 => K (Ex.exit 0) (laws_FnSkipSeeks_Q0_1 v1_0 v1_1 v1_2)) m := by funext x0 x1 x2 x3 x4 x5; exact laws_FnSkipSeeks_EL0 D n K m x0 x1 x2 x3 x4 x5
    rw [laws_FnSkipSeeks_SB0]
    rw [ih]; rfl
theorem laws_FnSkipSeeks_X0_0 (D : Den ctx) (n : Nat) (v0_0 : Bool) (v0_1 : Int) (v0_2 : Bool) (v0_3 : List ByteArray) :
  (CQ funcTab D n 13 [] [.r, .r, .r, .r, .r, .r, .r, .l, .r, .l] (lastK funcTab 13)) (Ex.ret) (laws_FnSkipSeeks_Q0_0 v0_0 v0_1 v0_2 v0_3) = laws_FnSkipSeeks_x0_0 D n v0_0 v0_1 v0_2 v0_3 := by kernel_rfl
theorem laws_FnSkipSeeks_X0_1 (D : Den ctx) (n : Nat) (v1_0 : Int) (v1_1 : Bool) (v1_2 : List ByteArray) :
  (CQ funcTab D n 13 [] [.r, .r, .r, .r, .r, .r, .r, .l, .r, .l] (lastK funcTab 13)) (Ex.exit 0) (laws_FnSkipSeeks_Q0_1 v1_0 v1_1 v1_2) = laws_FnSkipSeeks_x0_1 D n v1_0 v1_1 v1_2 := by kernel_rfl
theorem laws_FnSkipSeeks_ELP0 (D : Den ctx) (n : Nat) (x0 : ByteArray) (x1 : ByteArray) (x2 : Int) (x3 : Bool) (x4 : Int) (x5 : List ByteArray) :
  LQ funcTab D n 13 [.r, .r, .r, .r, .r, .r, .r, .l, .r, .l] n (laws_FnSkipSeeks_Q0 x0 x1 x2 x3 x4 x5) (CQ funcTab D n 13 [] [.r, .r, .r, .r, .r, .r, .r, .l, .r, .l] (lastK funcTab 13)) = laws_FnSkipSeeks_LP0 D n x0 x1 x2 x3 x4 x5 := by
  rw [laws_FnSkipSeeks_EL0]
  simp only [laws_FnSkipSeeks_X0_0, laws_FnSkipSeeks_X0_1]
  rfl
theorem E_laws_FnSkipSeeks (D : Den ctx) (n : Nat) (a0 : List Int) : rfC funcTab D n 13 (a0, ()) = F_laws_FnSkipSeeks D n a0 := by
  have h : rfC funcTab D n 13 (a0, ()) = laws_FnSkipSeeks_e D n (fun x0 x1 x2 x3 x4 x5 => LQ funcTab D n 13 [.r, .r, .r, .r, .r, .r, .r, .l, .r, .l] n (laws_FnSkipSeeks_Q0 x0 x1 x2 x3 x4 x5) (CQ funcTab D n 13 [] [.r, .r, .r, .r, .r, .r, .r, .l, .r, .l] (lastK funcTab 13))) a0 := by kernel_rfl
  rw [h]
  simp only [laws_FnSkipSeeks_ELP0]
  rfl
end Go.G

namespace Go.G
set_option maxRecDepth 100000
set_option maxHeartbeats 0
open Go Go.V
noncomputable def spec_HeightOf_b0 (D : Den ctx) (n : Nat) (go : ByteArray → Int → Int → Option ((Int × Unit) × Unit)) (K0 : Int → Option ((Int × Unit) × Unit)) (x0 : ByteArray) (x1 : Int) (x2 : Int) : Option ((Int × Unit) × Unit) := br (decide (x2 < (↑(ByteArray.size x0) : Int))) (br (decide (0 ≤ x2) && decide (x2 < (↑(ByteArray.size x0) : Int))) (go x0 (Int.tmod (IntKind.wrap IntKind.i64 (IntKind.wrap IntKind.i64 (31 * x1) + IntKind.wrap IntKind.i64 (↑(UInt8.toNat (Array.getD (ByteArray.data x0) (Int.toNat x2) (UInt8.ofNat 0))) : Int))) 16) (IntKind.wrap IntKind.i64 (x2 + 1))) none) (K0 x1)
noncomputable def spec_HeightOf_L0 (D : Den ctx) (n : Nat) (K0 : Int → Option ((Int × Unit) × Unit)) : Nat → (ByteArray) → (Int) → (Int) → Option ((Int × Unit) × Unit) | 0 => (fun x0 x1 x2 => none) | m + 1 => (fun x0 x1 x2 => spec_HeightOf_b0 D n (spec_HeightOf_L0 D n K0 m) K0 x0 x1 x2)
noncomputable def spec_HeightOf_x0_0 (D : Den ctx) (n : Nat) (v0_0 : Int) : Option ((Int × Unit) × Unit) := br (bif decide (v0_0 = 0) then true else decide (v0_0 = 8)) (some ((4, ()), ())) (br (decide (Int.tmod v0_0 4 = 0)) (some ((3, ()), ())) (br (decide (Int.tmod v0_0 2 = 0)) (some ((2, ()), ())) (some ((1, ()), ()))))
noncomputable def spec_HeightOf_LP0 (D : Den ctx) (n : Nat) : (ByteArray) → (Int) → (Int) → Option ((Int × Unit) × Unit) := (fun x0 x1 x2 => spec_HeightOf_L0 D n (fun v0_0 => spec_HeightOf_x0_0 D n v0_0) n x0 x1 x2)
noncomputable def spec_HeightOf_e (D : Den ctx) (n : Nat) (lp0 : ByteArray → Int → Int → Option ((Int × Unit) × Unit)) (a0 : ByteArray) : Option ((Int × Unit) × Unit) := lp0 a0 7 0
noncomputable def F_spec_HeightOf (D : Den ctx) (n : Nat) (a0 : ByteArray) : Option ((Int × Unit) × Unit) := spec_HeightOf_e D n (spec_HeightOf_LP0 D n) a0
def spec_HeightOf_Q0 (x0 : ByteArray) (x1 : Int) (x2 : Int) : St := stq 34 [(0, AV.val Ty.str x0), (3, AV.val (Ty.int IntKind.i64) x1), (4, AV.val (Ty.int IntKind.i64) x2)] []
def spec_HeightOf_Q0_0 (v0_0 : Int) : St := stq 34 [(3, AV.val (Ty.int IntKind.i64) v0_0)] []
theorem spec_HeightOf_SB0 (D : Den ctx) (n : Nat) (m : Nat) (K : Ex → St → Option (Out ctx 20)) (x0 : ByteArray) (x1 : Int) (x2 : Int) :
  LQ funcTab D n 20 [.r, .r, .l, .r, .l] (m + 1) (spec_HeightOf_Q0 x0 x1 x2) K = spec_HeightOf_b0 D n (fun x0 x1 x2 => LQ funcTab D n 20 [.r, .r, .l, .r, .l] m (spec_HeightOf_Q0 x0 x1 x2) K) (fun v0_0 => K (Ex.exit 0) (spec_HeightOf_Q0_0 v0_0)) x0 x1 x2 := by kernel_rfl
theorem spec_HeightOf_EL0 (D : Den ctx) (n : Nat) (K : Ex → St → Option (Out ctx 20)) : ∀ (m : Nat) (x0 : ByteArray) (x1 : Int) (x2 : Int), LQ funcTab D n 20 [.r, .r, .l, .r, .l] m (spec_HeightOf_Q0 x0 x1 x2) K = spec_HeightOf_L0 D n (fun v0_0 => K (Ex.exit 0) (spec_HeightOf_Q0_0 v0_0)) m x0 x1 x2
  | 0, x0, x1, x2 => LQ_zero ..
  | m + 1, x0, x1, x2 => by
    have ih : (fun x0 x1 x2 => LQ funcTab D n 20 [.r, .r, .l, .r, .l] m (spec_HeightOf_Q0 x0 x1 x2) K) = spec_HeightOf_L0 D n (fun v0_0 => K (Ex.exit 0) (spec_HeightOf_Q0_0 v0_0)) m := by funext x0 x1 x2; exact spec_HeightOf_EL0 D n K m x0 x1 x2
    rw [spec_HeightOf_SB0]
    rw [ih]; rfl
theorem spec_HeightOf_X0_0 (D : Den ctx) (n : Nat) (v0_0 : Int) :
  (CQ funcTab D n 20 [] [.r, .r, .l, .r, .l] (lastK funcTab 20)) (Ex.exit 0) (spec_HeightOf_Q0_0 v0_0) = spec_HeightOf_x0_0 D n v0_0 := by kernel_rfl
theorem spec_HeightOf_ELP0 (D : Den ctx) (n : Nat) (x0 : ByteArray) (x1 : Int) (x2 : Int) :
  LQ funcTab D n 20 [.r, .r, .l, .r, .l] n (spec_HeightOf_Q0 x0 x1 x2) (CQ funcTab D n 20 [] [.r, .r, .l, .r, .l] (lastK funcTab 20)) = spec_HeightOf_LP0 D n x0 x1 x2 := by
  rw [spec_HeightOf_EL0]
  simp only [spec_HeightOf_X0_0]
  rfl
theorem E_spec_HeightOf (D : Den ctx) (n : Nat) (a0 : ByteArray) : rfC funcTab D n 20 (a0, ()) = F_spec_HeightOf D n a0 := by
  have h : rfC funcTab D n 20 (a0, ()) = spec_HeightOf_e D n (fun x0 x1 x2 => LQ funcTab D n 20 [.r, .r, .l, .r, .l] n (spec_HeightOf_Q0 x0 x1 x2) (CQ funcTab D n 20 [] [.r, .r, .l, .r, .l] (lastK funcTab 20))) a0 := by kernel_rfl
  rw [h]
  simp only [spec_HeightOf_ELP0]
  rfl
end Go.G

namespace Go.G
set_option maxRecDepth 100000
set_option maxHeartbeats 0
open Go Go.V
noncomputable def impl_HeightOf_b0 (D : Den ctx) (n : Nat) (go : ByteArray → Int → Int → Int → Option ((Int × Unit) × Unit)) (K0 : Int → Option ((Int × Unit) × Unit)) (x0 : ByteArray) (x1 : Int) (x2 : Int) (x3 : Int) : Option ((Int × Unit) × Unit) := br (decide (x3 < x2)) (br (decide (0 ≤ x3) && decide (x3 < (↑(ByteArray.size x0) : Int))) (go x0 (Int.tmod (IntKind.wrap IntKind.i64 (IntKind.wrap IntKind.i64 (31 * x1) + IntKind.wrap IntKind.i64 (↑(UInt8.toNat (Array.getD (ByteArray.data x0) (Int.toNat x3) (UInt8.ofNat 0))) : Int))) 16) x2 (IntKind.wrap IntKind.i64 (x3 + 1))) none) (K0 x1)
noncomputable def impl_HeightOf_L0 (D : Den ctx) (n : Nat) (K0 : Int → Option ((Int × Unit) × Unit)) : Nat → (ByteArray) → (Int) → (Int) → (Int) → Option ((Int × Unit) × Unit) | 0 => (fun x0 x1 x2 x3 => none) | m + 1 => (fun x0 x1 x2 x3 => impl_HeightOf_b0 D n (impl_HeightOf_L0 D n K0 m) K0 x0 x1 x2 x3)
noncomputable def impl_HeightOf_x0_0 (D : Den ctx) (n : Nat) (v0_0 : Int) : Option ((Int × Unit) × Unit) := br (decide (Int.tmod v0_0 8 = 0)) (some ((4, ()), ())) (br (decide (Int.tmod v0_0 4 = 0)) (some ((3, ()), ())) (br (decide (Int.tmod v0_0 2 = 0)) (some ((2, ()), ())) (some ((1, ()), ()))))
noncomputable def impl_HeightOf_LP0 (D : Den ctx) (n : Nat) : (ByteArray) → (Int) → (Int) → (Int) → Option ((Int × Unit) × Unit) := (fun x0 x1 x2 x3 => impl_HeightOf_L0 D n (fun v0_0 => impl_HeightOf_x0_0 D n v0_0) n x0 x1 x2 x3)
noncomputable def impl_HeightOf_e (D : Den ctx) (n : Nat) (lp0 : ByteArray → Int → Int → Int → Option ((Int × Unit) × Unit)) (a0 : ByteArray) : Option ((Int × Unit) × Unit) := lp0 a0 7 (↑(ByteArray.size a0) : Int) 0
noncomputable def F_impl_HeightOf (D : Den ctx) (n : Nat) (a0 : ByteArray) : Option ((Int × Unit) × Unit) := impl_HeightOf_e D n (impl_HeightOf_LP0 D n) a0
def impl_HeightOf_Q0 (x0 : ByteArray) (x1 : Int) (x2 : Int) (x3 : Int) : St := stq 31 [(0, AV.val Ty.str x0), (3, AV.val (Ty.int IntKind.i64) x1), (6, AV.val (Ty.int IntKind.i64) x2), (7, AV.val (Ty.int IntKind.i64) x3)] []
def impl_HeightOf_Q0_0 (v0_0 : Int) : St := stq 31 [(3, AV.val (Ty.int IntKind.i64) v0_0)] []
theorem impl_HeightOf_SB0 (D : Den ctx) (n : Nat) (m : Nat) (K : Ex → St → Option (Out ctx 21)) (x0 : ByteArray) (x1 : Int) (x2 : Int) (x3 : Int) :
  LQ funcTab D n 21 [.r, .r, .l, .r, .l] (m + 1) (impl_HeightOf_Q0 x0 x1 x2 x3) K = impl_HeightOf_b0 D n (fun x0 x1 x2 x3 => LQ funcTab D n 21 [.r, .r, .l, .r, .l] m (impl_HeightOf_Q0 x0 x1 x2 x3) K) (fun v0_0 => K (Ex.exit 0) (impl_HeightOf_Q0_0 v0_0)) x0 x1 x2 x3 := by kernel_rfl
theorem impl_HeightOf_EL0 (D : Den ctx) (n : Nat) (K : Ex → St → Option (Out ctx 21)) : ∀ (m : Nat) (x0 : ByteArray) (x1 : Int) (x2 : Int) (x3 : Int), LQ funcTab D n 21 [.r, .r, .l, .r, .l] m (impl_HeightOf_Q0 x0 x1 x2 x3) K = impl_HeightOf_L0 D n (fun v0_0 => K (Ex.exit 0) (impl_HeightOf_Q0_0 v0_0)) m x0 x1 x2 x3
  | 0, x0, x1, x2, x3 => LQ_zero ..
  | m + 1, x0, x1, x2, x3 => by
    have ih : (fun x0 x1 x2 x3 => LQ funcTab D n 21 [.r, .r, .l, .r, .l] m (impl_HeightOf_Q0 x0 x1 x2 x3) K) = impl_HeightOf_L0 D n (fun v0_0 => K (Ex.exit 0) (impl_HeightOf_Q0_0 v0_0)) m := by funext x0 x1 x2 x3; exact impl_HeightOf_EL0 D n K m x0 x1 x2 x3
    rw [impl_HeightOf_SB0]
    rw [ih]; rfl
theorem impl_HeightOf_X0_0 (D : Den ctx) (n : Nat) (v0_0 : Int) :
  (CQ funcTab D n 21 [] [.r, .r, .l, .r, .l] (lastK funcTab 21)) (Ex.exit 0) (impl_HeightOf_Q0_0 v0_0) = impl_HeightOf_x0_0 D n v0_0 := by kernel_rfl
theorem impl_HeightOf_ELP0 (D : Den ctx) (n : Nat) (x0 : ByteArray) (x1 : Int) (x2 : Int) (x3 : Int) :
  LQ funcTab D n 21 [.r, .r, .l, .r, .l] n (impl_HeightOf_Q0 x0 x1 x2 x3) (CQ funcTab D n 21 [] [.r, .r, .l, .r, .l] (lastK funcTab 21)) = impl_HeightOf_LP0 D n x0 x1 x2 x3 := by
  rw [impl_HeightOf_EL0]
  simp only [impl_HeightOf_X0_0]
  rfl
theorem E_impl_HeightOf (D : Den ctx) (n : Nat) (a0 : ByteArray) : rfC funcTab D n 21 (a0, ()) = F_impl_HeightOf D n a0 := by
  have h : rfC funcTab D n 21 (a0, ()) = impl_HeightOf_e D n (fun x0 x1 x2 x3 => LQ funcTab D n 21 [.r, .r, .l, .r, .l] n (impl_HeightOf_Q0 x0 x1 x2 x3) (CQ funcTab D n 21 [] [.r, .r, .l, .r, .l] (lastK funcTab 21))) a0 := by kernel_rfl
  rw [h]
  simp only [impl_HeightOf_ELP0]
  rfl
end Go.G

namespace Go.G
set_option maxRecDepth 100000
set_option maxHeartbeats 0
open Go Go.V
noncomputable def spec_SkipNew_e (D : Den ctx) (n : Nat) : Option (((List Int × List (ByteArray × List Int × Unit) × Unit) × Unit) × Unit) := some ((([-1, -1, -1, -1], [], ()), ()), ())
noncomputable def F_spec_SkipNew (D : Den ctx) (n : Nat) : Option (((List Int × List (ByteArray × List Int × Unit) × Unit) × Unit) × Unit) := spec_SkipNew_e D n
theorem E_spec_SkipNew (D : Den ctx) (n : Nat) : rfC funcTab D n 22 () = F_spec_SkipNew D n := by kernel_rfl
end Go.G

namespace Go.G
set_option maxRecDepth 100000
set_option maxHeartbeats 0
open Go Go.V
noncomputable def impl_SkipNew_e (D : Den ctx) (n : Nat) : Option (((List Int × List (ByteArray × List Int × Unit) × Unit) × Unit) × Unit) := some ((([-1, -1, -1, -1], [], ()), ()), ())
noncomputable def F_impl_SkipNew (D : Den ctx) (n : Nat) : Option (((List Int × List (ByteArray × List Int × Unit) × Unit) × Unit) × Unit) := impl_SkipNew_e D n
theorem E_impl_SkipNew (D : Den ctx) (n : Nat) : rfC funcTab D n 23 () = F_impl_SkipNew D n := by kernel_rfl
end Go.G

namespace Go.G
set_option maxRecDepth 100000
set_option maxHeartbeats 0
open Go Go.V
noncomputable def laws_eqSkip_e (D : Den ctx) (n : Nat) (a0 : List Int × List (ByteArray × List Int × Unit) × Unit) (a1 : List Int × List (ByteArray × List Int × Unit) × Unit) : Option ((Bool × Unit) × Unit) := bindD (C_laws_eqIntS D (Prod.fst a0) (Prod.fst a1)) fun b ↦ br (!Prod.fst (Prod.fst b)) (some ((false, ()), ())) (bindD (C_laws_eqLaneS D (Prod.fst (Prod.snd a0)) (Prod.fst (Prod.snd a1))) fun b ↦ br (!Prod.fst (Prod.fst b)) (some ((false, ()), ())) (some ((true, ()), ())))
noncomputable def F_laws_eqSkip (D : Den ctx) (n : Nat) (a0 : List Int × List (ByteArray × List Int × Unit) × Unit) (a1 : List Int × List (ByteArray × List Int × Unit) × Unit) : Option ((Bool × Unit) × Unit) := laws_eqSkip_e D n a0 a1
theorem E_laws_eqSkip (D : Den ctx) (n : Nat) (a0 : List Int × List (ByteArray × List Int × Unit) × Unit) (a1 : List Int × List (ByteArray × List Int × Unit) × Unit) : rfC funcTab D n 24 (a0, (a1, ())) = F_laws_eqSkip D n a0 a1 := by kernel_rfl
end Go.G

namespace Go.G
set_option maxRecDepth 100000
set_option maxHeartbeats 0
open Go Go.V
noncomputable def laws_markSkip_e (D : Den ctx) (n : Nat) (a0 : List Int × List (ByteArray × List Int × Unit) × Unit) (a1 : Int) : Option ((Int × Unit) × (List Int × List (ByteArray × List Int × Unit) × Unit) × Unit) := bindD (C_laws_markIntS D (Prod.fst a0) a1) fun b ↦ bindD (C_laws_markLaneS D (Prod.fst (Prod.snd a0)) (Prod.fst (Prod.fst b))) fun b_1 ↦ some ((Prod.fst (Prod.fst b_1), ()), (Prod.fst (Prod.snd b), Prod.fst (Prod.snd b_1), ()), ())
noncomputable def F_laws_markSkip (D : Den ctx) (n : Nat) (a0 : List Int × List (ByteArray × List Int × Unit) × Unit) (a1 : Int) : Option ((Int × Unit) × (List Int × List (ByteArray × List Int × Unit) × Unit) × Unit) := laws_markSkip_e D n a0 a1
theorem E_laws_markSkip (D : Den ctx) (n : Nat) (a0 : List Int × List (ByteArray × List Int × Unit) × Unit) (a1 : Int) : rfC funcTab D n 25 (a0, (a1, ())) = F_laws_markSkip D n a0 a1 := by kernel_rfl
end Go.G

namespace Go.G
set_option maxRecDepth 100000
set_option maxHeartbeats 0
open Go Go.V
noncomputable def laws_heldSkip_e (D : Den ctx) (n : Nat) (a0 : List Int × List (ByteArray × List Int × Unit) × Unit) (a1 : Int) : Option ((Int × Unit) × Unit) := bindD (C_laws_heldIntS D (Prod.fst a0) a1) fun b ↦ br (decide (Prod.fst (Prod.fst b) < 0)) (some ((-1, ()), ())) (bindD (C_laws_heldLaneS D (Prod.fst (Prod.snd a0)) (Prod.fst (Prod.fst b))) fun b ↦ br (decide (Prod.fst (Prod.fst b) < 0)) (some ((-1, ()), ())) (some ((Prod.fst (Prod.fst b), ()), ())))
noncomputable def F_laws_heldSkip (D : Den ctx) (n : Nat) (a0 : List Int × List (ByteArray × List Int × Unit) × Unit) (a1 : Int) : Option ((Int × Unit) × Unit) := laws_heldSkip_e D n a0 a1
theorem E_laws_heldSkip (D : Den ctx) (n : Nat) (a0 : List Int × List (ByteArray × List Int × Unit) × Unit) (a1 : Int) : rfC funcTab D n 26 (a0, (a1, ())) = F_laws_heldSkip D n a0 a1 := by kernel_rfl
end Go.G

namespace Go.G
set_option maxRecDepth 100000
set_option maxHeartbeats 0
open Go Go.V
noncomputable def laws_big_e (D : Den ctx) (n : Nat) (a0 : List Int) : Option ((Bool × Unit) × Unit) := some ((decide ((↑(List.length a0) : Int) > 1048576), ()), ())
noncomputable def F_laws_big (D : Den ctx) (n : Nat) (a0 : List Int) : Option ((Bool × Unit) × Unit) := laws_big_e D n a0
theorem E_laws_big (D : Den ctx) (n : Nat) (a0 : List Int) : rfC funcTab D n 34 (a0, ()) = F_laws_big D n a0 := by kernel_rfl
end Go.G

namespace Go.G
set_option maxRecDepth 100000
set_option maxHeartbeats 0
open Go Go.V
noncomputable def spec_DrawHeightOf_e (D : Den ctx) (n : Nat) (a0 : List Int) : Option ((ByteArray × Unit) × Unit) := bindD (C_spec_l1New D a0) fun b ↦ bindD (C_spec_l20DrawKey D (Prod.fst (Prod.fst b))) fun b ↦ some ((Prod.fst (Prod.fst b), ()), ())
noncomputable def F_spec_DrawHeightOf (D : Den ctx) (n : Nat) (a0 : List Int) : Option ((ByteArray × Unit) × Unit) := spec_DrawHeightOf_e D n a0
theorem E_spec_DrawHeightOf (D : Den ctx) (n : Nat) (a0 : List Int) : rfC funcTab D n 35 (a0, ()) = F_spec_DrawHeightOf D n a0 := by kernel_rfl
end Go.G

namespace Go.G
set_option maxRecDepth 100000
set_option maxHeartbeats 0
open Go Go.V
noncomputable def impl_SkipPut_b0 (D : Den ctx) (n : Nat) (go : ByteArray → Int → Int → Int → List Int × List (ByteArray × List Int × Unit) × Unit → List Int × List (ByteArray × List Int × Unit) × Unit → List Int → ByteArray × List Int × Unit → Option (((List Int × List (ByteArray × List Int × Unit) × Unit) × Bool × Unit) × Unit)) (K0 : ByteArray → Int → List Int × List (ByteArray × List Int × Unit) × Unit → List Int × List (ByteArray × List Int × Unit) × Unit → List Int → ByteArray × List Int × Unit → Option (((List Int × List (ByteArray × List Int × Unit) × Unit) × Bool × Unit) × Unit)) (x0 : ByteArray) (x1 : Int) (x2 : Int) (x3 : Int) (x4 : List Int × List (ByteArray × List Int × Unit) × Unit) (x5 : List Int × List (ByteArray × List Int × Unit) × Unit) (x6 : List Int) (x7 : ByteArray × List Int × Unit) : Option (((List Int × List (ByteArray × List Int × Unit) × Unit) × Bool × Unit) × Unit) := br (decide (x3 < x2)) (br (decide (0 ≤ x3) && decide (x3 < (↑(List.length x6) : Int))) (bindD (C_impl_Skip_after D (Prod.fst x4, Prod.fst (Prod.snd x4), ()) (List.getD x6 (Int.toNat x3) 0) x3) fun b ↦ br (decide (List.length (Prod.fst (Prod.snd x7)) + 1 ≤ bound)) (go x0 x1 x2 (IntKind.wrap IntKind.i64 (x3 + 1)) x4 x5 x6 (Prod.fst x7, Prod.fst (Prod.snd x7) ++ [Prod.fst (Prod.fst b)], Prod.snd (Prod.snd x7))) none) none) (K0 x0 x1 x4 x5 x6 x7)
noncomputable def impl_SkipPut_L0 (D : Den ctx) (n : Nat) (K0 : ByteArray → Int → List Int × List (ByteArray × List Int × Unit) × Unit → List Int × List (ByteArray × List Int × Unit) × Unit → List Int → ByteArray × List Int × Unit → Option (((List Int × List (ByteArray × List Int × Unit) × Unit) × Bool × Unit) × Unit)) : Nat → (ByteArray) → (Int) → (Int) → (Int) → (List Int × List (ByteArray × List Int × Unit) × Unit) → (List Int × List (ByteArray × List Int × Unit) × Unit) → (List Int) → (ByteArray × List Int × Unit) → Option (((List Int × List (ByteArray × List Int × Unit) × Unit) × Bool × Unit) × Unit) | 0 => (fun x0 x1 x2 x3 x4 x5 x6 x7 => none) | m + 1 => (fun x0 x1 x2 x3 x4 x5 x6 x7 => impl_SkipPut_b0 D n (impl_SkipPut_L0 D n K0 m) K0 x0 x1 x2 x3 x4 x5 x6 x7)
noncomputable def impl_SkipPut_b1 (D : Den ctx) (n : Nat) (go : Int → Int → Int → List Int × List (ByteArray × List Int × Unit) × Unit → List Int × List (ByteArray × List Int × Unit) × Unit → List Int → Option (((List Int × List (ByteArray × List Int × Unit) × Unit) × Bool × Unit) × Unit)) (K0 : List Int × List (ByteArray × List Int × Unit) × Unit → List Int × List (ByteArray × List Int × Unit) × Unit → Option (((List Int × List (ByteArray × List Int × Unit) × Unit) × Bool × Unit) × Unit)) (x1_0 : Int) (x1_1 : Int) (x1_2 : Int) (x1_3 : List Int × List (ByteArray × List Int × Unit) × Unit) (x1_4 : List Int × List (ByteArray × List Int × Unit) × Unit) (x1_5 : List Int) : Option (((List Int × List (ByteArray × List Int × Unit) × Unit) × Bool × Unit) × Unit) := br (decide (x1_2 < x1_1)) (br (decide (0 ≤ x1_2) && decide (x1_2 < (↑(List.length x1_5) : Int))) (bindD (C_impl_Skip_link D x1_3 (List.getD x1_5 (Int.toNat x1_2) 0) x1_2 x1_0) fun b ↦ go x1_0 x1_1 (IntKind.wrap IntKind.i64 (x1_2 + 1)) (Prod.fst (Prod.snd b)) x1_4 x1_5) none) (K0 x1_3 x1_4)
noncomputable def impl_SkipPut_L1 (D : Den ctx) (n : Nat) (K0 : List Int × List (ByteArray × List Int × Unit) × Unit → List Int × List (ByteArray × List Int × Unit) × Unit → Option (((List Int × List (ByteArray × List Int × Unit) × Unit) × Bool × Unit) × Unit)) : Nat → (Int) → (Int) → (Int) → (List Int × List (ByteArray × List Int × Unit) × Unit) → (List Int × List (ByteArray × List Int × Unit) × Unit) → (List Int) → Option (((List Int × List (ByteArray × List Int × Unit) × Unit) × Bool × Unit) × Unit) | 0 => (fun x1_0 x1_1 x1_2 x1_3 x1_4 x1_5 => none) | m + 1 => (fun x1_0 x1_1 x1_2 x1_3 x1_4 x1_5 => impl_SkipPut_b1 D n (impl_SkipPut_L1 D n K0 m) K0 x1_0 x1_1 x1_2 x1_3 x1_4 x1_5)
noncomputable def impl_SkipPut_x1_0 (D : Den ctx) (n : Nat) (v0_0 : List Int × List (ByteArray × List Int × Unit) × Unit) (v0_1 : List Int × List (ByteArray × List Int × Unit) × Unit) : Option (((List Int × List (ByteArray × List Int × Unit) × Unit) × Bool × Unit) × Unit) := some (((Prod.fst v0_0, Prod.fst (Prod.snd v0_0), ()), true, ()), ())
noncomputable def impl_SkipPut_LP1 (D : Den ctx) (n : Nat) : (Int) → (Int) → (Int) → (List Int × List (ByteArray × List Int × Unit) × Unit) → (List Int × List (ByteArray × List Int × Unit) × Unit) → (List Int) → Option (((List Int × List (ByteArray × List Int × Unit) × Unit) × Bool × Unit) × Unit) := (fun x1_0 x1_1 x1_2 x1_3 x1_4 x1_5 => impl_SkipPut_L1 D n (fun v0_0 v0_1 => impl_SkipPut_x1_0 D n v0_0 v0_1) n x1_0 x1_1 x1_2 x1_3 x1_4 x1_5)
noncomputable def impl_SkipPut_x0_0 (D : Den ctx) (n : Nat) (lp1 : Int → Int → Int → List Int × List (ByteArray × List Int × Unit) × Unit → List Int × List (ByteArray × List Int × Unit) × Unit → List Int → Option (((List Int × List (ByteArray × List Int × Unit) × Unit) × Bool × Unit) × Unit)) (v0_0 : ByteArray) (v0_1 : Int) (v0_2 : List Int × List (ByteArray × List Int × Unit) × Unit) (v0_3 : List Int × List (ByteArray × List Int × Unit) × Unit) (v0_4 : List Int) (v0_5 : ByteArray × List Int × Unit) : Option (((List Int × List (ByteArray × List Int × Unit) × Unit) × Bool × Unit) × Unit) := br (decide (List.length (Prod.fst (Prod.snd v0_2)) + 1 ≤ bound)) (bindD (C_impl_HeightOf D v0_0) fun b ↦ lp1 v0_1 (Prod.fst (Prod.fst b)) 0 (Prod.fst v0_2, Prod.fst (Prod.snd v0_2) ++ [(Prod.fst v0_5, Prod.fst (Prod.snd v0_5), ())], Prod.snd (Prod.snd v0_2)) v0_3 v0_4) none
noncomputable def impl_SkipPut_LP0 (D : Den ctx) (n : Nat) : (ByteArray) → (Int) → (Int) → (Int) → (List Int × List (ByteArray × List Int × Unit) × Unit) → (List Int × List (ByteArray × List Int × Unit) × Unit) → (List Int) → (ByteArray × List Int × Unit) → Option (((List Int × List (ByteArray × List Int × Unit) × Unit) × Bool × Unit) × Unit) := (fun x0 x1 x2 x3 x4 x5 x6 x7 => impl_SkipPut_L0 D n (fun v0_0 v0_1 v0_2 v0_3 v0_4 v0_5 => impl_SkipPut_x0_0 D n (impl_SkipPut_LP1 D n) v0_0 v0_1 v0_2 v0_3 v0_4 v0_5) n x0 x1 x2 x3 x4 x5 x6 x7)
noncomputable def impl_SkipPut_e (D : Den ctx) (n : Nat) (lp0 : ByteArray → Int → Int → Int → List Int × List (ByteArray × List Int × Unit) × Unit → List Int × List (ByteArray × List Int × Unit) × Unit → List Int → ByteArray × List Int × Unit → Option (((List Int × List (ByteArray × List Int × Unit) × Unit) × Bool × Unit) × Unit)) (a0 : List Int × List (ByteArray × List Int × Unit) × Unit) (a1 : ByteArray) : Option (((List Int × List (ByteArray × List Int × Unit) × Unit) × Bool × Unit) × Unit) := bindD (C_impl_copySkip D a0) fun b ↦ bindD (C_impl_SkipOk D (Prod.fst (Prod.fst (Prod.fst b)), Prod.fst (Prod.snd (Prod.fst (Prod.fst b))), ())) fun b_1 ↦ br (bif bif !Prod.fst (Prod.fst b_1) then true else decide ((↑(ByteArray.size a1) : Int) > 40) then true else decide ((↑(List.length (Prod.fst (Prod.snd (Prod.fst (Prod.fst b))))) : Int) = 40)) (some (((Prod.fst (Prod.fst (Prod.fst b)), Prod.fst (Prod.snd (Prod.fst (Prod.fst b))), ()), false, ()), ())) (bindD (C_impl_ahead D (Prod.fst (Prod.fst (Prod.fst b)), Prod.fst (Prod.snd (Prod.fst (Prod.fst b))), ()) a1) fun b_2 ↦ br (decide (0 ≤ 0) && decide (0 < (↑(List.length (Prod.fst (Prod.fst b_2))) : Int))) (bindD (C_impl_Skip_after D (Prod.fst (Prod.fst (Prod.fst b)), Prod.fst (Prod.snd (Prod.fst (Prod.fst b))), ()) (List.getD (Prod.fst (Prod.fst b_2)) 0 0) 0) fun b_3 ↦ br (Prod.fst (Prod.fst b_3) != -1) (br (decide (0 ≤ Prod.fst (Prod.fst b_3)) && decide (Prod.fst (Prod.fst b_3) < (↑(List.length (Prod.fst (Prod.snd (Prod.fst (Prod.fst b))))) : Int))) (br (List.beq (ByteArray.toList (Prod.fst (List.getD (Prod.fst (Prod.snd (Prod.fst (Prod.fst b)))) (Int.toNat (Prod.fst (Prod.fst b_3))) (ByteArray.empty, [], ())))) (ByteArray.toList a1)) (some (((Prod.fst (Prod.fst (Prod.fst b)), Prod.fst (Prod.snd (Prod.fst (Prod.fst b))), ()), false, ()), ())) (bindD (C_impl_HeightOf D a1) fun b_4 ↦ lp0 a1 (↑(List.length (Prod.fst (Prod.snd (Prod.fst (Prod.fst b))))) : Int) (Prod.fst (Prod.fst b_4)) 0 (Prod.fst (Prod.fst (Prod.fst b)), Prod.fst (Prod.snd (Prod.fst (Prod.fst b))), ()) ([], [], ()) (Prod.fst (Prod.fst b_2)) (a1, [], ()))) none) (bindD (C_impl_HeightOf D a1) fun b_4 ↦ lp0 a1 (↑(List.length (Prod.fst (Prod.snd (Prod.fst (Prod.fst b))))) : Int) (Prod.fst (Prod.fst b_4)) 0 (Prod.fst (Prod.fst (Prod.fst b)), Prod.fst (Prod.snd (Prod.fst (Prod.fst b))), ()) ([], [], ()) (Prod.fst (Prod.fst b_2)) (a1, [], ()))) none)
noncomputable def F_impl_SkipPut (D : Den ctx) (n : Nat) (a0 : List Int × List (ByteArray × List Int × Unit) × Unit) (a1 : ByteArray) : Option (((List Int × List (ByteArray × List Int × Unit) × Unit) × Bool × Unit) × Unit) := impl_SkipPut_e D n (impl_SkipPut_LP0 D n) a0 a1
def impl_SkipPut_Q0 (x0 : ByteArray) (x1 : Int) (x2 : Int) (x3 : Int) (x4 : List Int × List (ByteArray × List Int × Unit) × Unit) (x5 : List Int × List (ByteArray × List Int × Unit) × Unit) (x6 : List Int) (x7 : ByteArray × List Int × Unit) : St := stq 97 [(1, AV.val Ty.str x0), (2, AV.addr 2 []), (4, AV.addr 4 []), (6, AV.brw 6 [] 0), (9, AV.val (Ty.int IntKind.i64) x1), (10, AV.addr 10 []), (60, AV.val (Ty.int IntKind.i64) x2), (61, AV.val (Ty.int IntKind.i64) x3)] [(2, Root.mk (Ty.pair (Ty.sl (Ty.int IntKind.i64)) (Ty.pair (Ty.sl (Ty.pair Ty.str (Ty.pair (Ty.sl (Ty.int IntKind.i64)) Ty.unit))) Ty.unit)) (Mk.pr (Mk.own 0 Mk.no) (Mk.pr (Mk.own 0 (Mk.pr Mk.no (Mk.pr (Mk.own 0 Mk.no) Mk.no))) Mk.no)) x4 true), (4, Root.mk (Ty.pair (Ty.sl (Ty.int IntKind.i64)) (Ty.pair (Ty.sl (Ty.pair Ty.str (Ty.pair (Ty.sl (Ty.int IntKind.i64)) Ty.unit))) Ty.unit)) (Mk.pr (Mk.own 0 Mk.no) (Mk.pr (Mk.own 0 (Mk.pr Mk.no (Mk.pr (Mk.own 0 Mk.no) Mk.no))) Mk.no)) x5 true), (6, Root.mk (Ty.sl (Ty.int IntKind.i64)) (Mk.own 0 Mk.no) x6 false), (10, Root.mk (Ty.pair Ty.str (Ty.pair (Ty.sl (Ty.int IntKind.i64)) Ty.unit)) (Mk.pr Mk.no (Mk.pr (Mk.own 0 Mk.no) Mk.no)) x7 true)]
def impl_SkipPut_Q0_0 (v0_0 : ByteArray) (v0_1 : Int) (v0_2 : List Int × List (ByteArray × List Int × Unit) × Unit) (v0_3 : List Int × List (ByteArray × List Int × Unit) × Unit) (v0_4 : List Int) (v0_5 : ByteArray × List Int × Unit) : St := stq 97 [(1, AV.val Ty.str v0_0), (2, AV.addr 2 []), (4, AV.addr 4 []), (6, AV.brw 6 [] 0), (9, AV.val (Ty.int IntKind.i64) v0_1), (10, AV.addr 10 [])] [(2, Root.mk (Ty.pair (Ty.sl (Ty.int IntKind.i64)) (Ty.pair (Ty.sl (Ty.pair Ty.str (Ty.pair (Ty.sl (Ty.int IntKind.i64)) Ty.unit))) Ty.unit)) (Mk.pr (Mk.own 0 Mk.no) (Mk.pr (Mk.own 0 (Mk.pr Mk.no (Mk.pr (Mk.own 0 Mk.no) Mk.no))) Mk.no)) v0_2 true), (4, Root.mk (Ty.pair (Ty.sl (Ty.int IntKind.i64)) (Ty.pair (Ty.sl (Ty.pair Ty.str (Ty.pair (Ty.sl (Ty.int IntKind.i64)) Ty.unit))) Ty.unit)) (Mk.pr (Mk.own 0 Mk.no) (Mk.pr (Mk.own 0 (Mk.pr Mk.no (Mk.pr (Mk.own 0 Mk.no) Mk.no))) Mk.no)) v0_3 true), (6, Root.mk (Ty.sl (Ty.int IntKind.i64)) (Mk.own 0 Mk.no) v0_4 false), (10, Root.mk (Ty.pair Ty.str (Ty.pair (Ty.sl (Ty.int IntKind.i64)) Ty.unit)) (Mk.pr Mk.no (Mk.pr (Mk.own 0 Mk.no) Mk.no)) v0_5 true)]
def impl_SkipPut_Q1 (x1_0 : Int) (x1_1 : Int) (x1_2 : Int) (x1_3 : List Int × List (ByteArray × List Int × Unit) × Unit) (x1_4 : List Int × List (ByteArray × List Int × Unit) × Unit) (x1_5 : List Int) : St := stq 97 [(2, AV.addr 2 []), (4, AV.addr 4 []), (6, AV.brw 6 [] 0), (9, AV.val (Ty.int IntKind.i64) x1_0), (84, AV.val (Ty.int IntKind.i64) x1_1), (85, AV.val (Ty.int IntKind.i64) x1_2)] [(2, Root.mk (Ty.pair (Ty.sl (Ty.int IntKind.i64)) (Ty.pair (Ty.sl (Ty.pair Ty.str (Ty.pair (Ty.sl (Ty.int IntKind.i64)) Ty.unit))) Ty.unit)) (Mk.pr (Mk.own 0 Mk.no) (Mk.pr (Mk.own 0 (Mk.pr Mk.no (Mk.pr (Mk.own 0 Mk.no) Mk.no))) Mk.no)) x1_3 true), (4, Root.mk (Ty.pair (Ty.sl (Ty.int IntKind.i64)) (Ty.pair (Ty.sl (Ty.pair Ty.str (Ty.pair (Ty.sl (Ty.int IntKind.i64)) Ty.unit))) Ty.unit)) (Mk.pr (Mk.own 0 Mk.no) (Mk.pr (Mk.own 0 (Mk.pr Mk.no (Mk.pr (Mk.own 0 Mk.no) Mk.no))) Mk.no)) x1_4 true), (6, Root.mk (Ty.sl (Ty.int IntKind.i64)) (Mk.own 0 Mk.no) x1_5 false)]
def impl_SkipPut_Q1_0 (v0_0 : List Int × List (ByteArray × List Int × Unit) × Unit) (v0_1 : List Int × List (ByteArray × List Int × Unit) × Unit) : St := stq 97 [(2, AV.addr 2 []), (4, AV.addr 4 [])] [(2, Root.mk (Ty.pair (Ty.sl (Ty.int IntKind.i64)) (Ty.pair (Ty.sl (Ty.pair Ty.str (Ty.pair (Ty.sl (Ty.int IntKind.i64)) Ty.unit))) Ty.unit)) (Mk.pr (Mk.own 0 Mk.no) (Mk.pr (Mk.own 0 (Mk.pr Mk.no (Mk.pr (Mk.own 0 Mk.no) Mk.no))) Mk.no)) v0_0 true), (4, Root.mk (Ty.pair (Ty.sl (Ty.int IntKind.i64)) (Ty.pair (Ty.sl (Ty.pair Ty.str (Ty.pair (Ty.sl (Ty.int IntKind.i64)) Ty.unit))) Ty.unit)) (Mk.pr (Mk.own 0 Mk.no) (Mk.pr (Mk.own 0 (Mk.pr Mk.no (Mk.pr (Mk.own 0 Mk.no) Mk.no))) Mk.no)) v0_1 true)]
theorem impl_SkipPut_SB0 (D : Den ctx) (n : Nat) (m : Nat) (K : Ex → St → Option (Out ctx 36)) (x0 : ByteArray) (x1 : Int) (x2 : Int) (x3 : Int) (x4 : List Int × List (ByteArray × List Int × Unit) × Unit) (x5 : List Int × List (ByteArray × List Int × Unit) × Unit) (x6 : List Int) (x7 : ByteArray × List Int × Unit) :
  LQ funcTab D n 36 [.r, .r, .r, .r, .r, .r, .r, .l, .r, .l] (m + 1) (impl_SkipPut_Q0 x0 x1 x2 x3 x4 x5 x6 x7) K = impl_SkipPut_b0 D n (fun x0 x1 x2 x3 x4 x5 x6 x7 => LQ funcTab D n 36 [.r, .r, .r, .r, .r, .r, .r, .l, .r, .l] m (impl_SkipPut_Q0 x0 x1 x2 x3 x4 x5 x6 x7) K) (fun v0_0 v0_1 v0_2 v0_3 v0_4 v0_5 => K (Ex.exit 0) (impl_SkipPut_Q0_0 v0_0 v0_1 v0_2 v0_3 v0_4 v0_5)) x0 x1 x2 x3 x4 x5 x6 x7 := by kernel_rfl
theorem impl_SkipPut_EL0 (D : Den ctx) (n : Nat) (K : Ex → St → Option (Out ctx 36)) : ∀ (m : Nat) (x0 : ByteArray) (x1 : Int) (x2 : Int) (x3 : Int) (x4 : List Int × List (ByteArray × List Int × Unit) × Unit) (x5 : List Int × List (ByteArray × List Int × Unit) × Unit) (x6 : List Int) (x7 : ByteArray × List Int × Unit), LQ funcTab D n 36 [.r, .r, .r, .r, .r, .r, .r, .l, .r, .l] m (impl_SkipPut_Q0 x0 x1 x2 x3 x4 x5 x6 x7) K = impl_SkipPut_L0 D n (fun v0_0 v0_1 v0_2 v0_3 v0_4 v0_5 => K (Ex.exit 0) (impl_SkipPut_Q0_0 v0_0 v0_1 v0_2 v0_3 v0_4 v0_5)) m x0 x1 x2 x3 x4 x5 x6 x7
  | 0, x0, x1, x2, x3, x4, x5, x6, x7 => LQ_zero ..
  | m + 1, x0, x1, x2, x3, x4, x5, x6, x7 => by
    have ih : (fun x0 x1 x2 x3 x4 x5 x6 x7 => LQ funcTab D n 36 [.r, .r, .r, .r, .r, .r, .r, .l, .r, .l] m (impl_SkipPut_Q0 x0 x1 x2 x3 x4 x5 x6 x7) K) = impl_SkipPut_L0 D n (fun v0_0 v0_1 v0_2 v0_3 v0_4 v0_5 => K (Ex.exit 0) (impl_SkipPut_Q0_0 v0_0 v0_1 v0_2 v0_3 v0_4 v0_5)) m := by funext x0 x1 x2 x3 x4 x5 x6 x7; exact impl_SkipPut_EL0 D n K m x0 x1 x2 x3 x4 x5 x6 x7
    rw [impl_SkipPut_SB0]
    rw [ih]; rfl
theorem impl_SkipPut_SB1 (D : Den ctx) (n : Nat) (m : Nat) (K : Ex → St → Option (Out ctx 36)) (x1_0 : Int) (x1_1 : Int) (x1_2 : Int) (x1_3 : List Int × List (ByteArray × List Int × Unit) × Unit) (x1_4 : List Int × List (ByteArray × List Int × Unit) × Unit) (x1_5 : List Int) :
  LQ funcTab D n 36 [.r, .r, .r, .r, .r, .r, .r, .r, .r, .l, .r, .l] (m + 1) (impl_SkipPut_Q1 x1_0 x1_1 x1_2 x1_3 x1_4 x1_5) K = impl_SkipPut_b1 D n (fun x1_0 x1_1 x1_2 x1_3 x1_4 x1_5 => LQ funcTab D n 36 [.r, .r, .r, .r, .r, .r, .r, .r, .r, .l, .r, .l] m (impl_SkipPut_Q1 x1_0 x1_1 x1_2 x1_3 x1_4 x1_5) K) (fun v0_0 v0_1 => K (Ex.exit 2) (impl_SkipPut_Q1_0 v0_0 v0_1)) x1_0 x1_1 x1_2 x1_3 x1_4 x1_5 := by kernel_rfl
theorem impl_SkipPut_EL1 (D : Den ctx) (n : Nat) (K : Ex → St → Option (Out ctx 36)) : ∀ (m : Nat) (x1_0 : Int) (x1_1 : Int) (x1_2 : Int) (x1_3 : List Int × List (ByteArray × List Int × Unit) × Unit) (x1_4 : List Int × List (ByteArray × List Int × Unit) × Unit) (x1_5 : List Int), LQ funcTab D n 36 [.r, .r, .r, .r, .r, .r, .r, .r, .r, .l, .r, .l] m (impl_SkipPut_Q1 x1_0 x1_1 x1_2 x1_3 x1_4 x1_5) K = impl_SkipPut_L1 D n (fun v0_0 v0_1 => K (Ex.exit 2) (impl_SkipPut_Q1_0 v0_0 v0_1)) m x1_0 x1_1 x1_2 x1_3 x1_4 x1_5
  | 0, x1_0, x1_1, x1_2, x1_3, x1_4, x1_5 => LQ_zero ..
  | m + 1, x1_0, x1_1, x1_2, x1_3, x1_4, x1_5 => by
    have ih : (fun x1_0 x1_1 x1_2 x1_3 x1_4 x1_5 => LQ funcTab D n 36 [.r, .r, .r, .r, .r, .r, .r, .r, .r, .l, .r, .l] m (impl_SkipPut_Q1 x1_0 x1_1 x1_2 x1_3 x1_4 x1_5) K) = impl_SkipPut_L1 D n (fun v0_0 v0_1 => K (Ex.exit 2) (impl_SkipPut_Q1_0 v0_0 v0_1)) m := by funext x1_0 x1_1 x1_2 x1_3 x1_4 x1_5; exact impl_SkipPut_EL1 D n K m x1_0 x1_1 x1_2 x1_3 x1_4 x1_5
    rw [impl_SkipPut_SB1]
    rw [ih]; rfl
theorem impl_SkipPut_X1_0 (D : Den ctx) (n : Nat) (v0_0 : List Int × List (ByteArray × List Int × Unit) × Unit) (v0_1 : List Int × List (ByteArray × List Int × Unit) × Unit) :
  (CQ funcTab D n 36 [] [.r, .r, .r, .r, .r, .r, .r, .r, .r, .l, .r, .l] (lastK funcTab 36)) (Ex.exit 2) (impl_SkipPut_Q1_0 v0_0 v0_1) = impl_SkipPut_x1_0 D n v0_0 v0_1 := by kernel_rfl
theorem impl_SkipPut_ELP1 (D : Den ctx) (n : Nat) (x1_0 : Int) (x1_1 : Int) (x1_2 : Int) (x1_3 : List Int × List (ByteArray × List Int × Unit) × Unit) (x1_4 : List Int × List (ByteArray × List Int × Unit) × Unit) (x1_5 : List Int) :
  LQ funcTab D n 36 [.r, .r, .r, .r, .r, .r, .r, .r, .r, .l, .r, .l] n (impl_SkipPut_Q1 x1_0 x1_1 x1_2 x1_3 x1_4 x1_5) (CQ funcTab D n 36 [] [.r, .r, .r, .r, .r, .r, .r, .r, .r, .l, .r, .l] (lastK funcTab 36)) = impl_SkipPut_LP1 D n x1_0 x1_1 x1_2 x1_3 x1_4 x1_5 := by
  rw [impl_SkipPut_EL1]
  simp only [impl_SkipPut_X1_0]
  rfl
theorem impl_SkipPut_X0_0 (D : Den ctx) (n : Nat) (v0_0 : ByteArray) (v0_1 : Int) (v0_2 : List Int × List (ByteArray × List Int × Unit) × Unit) (v0_3 : List Int × List (ByteArray × List Int × Unit) × Unit) (v0_4 : List Int) (v0_5 : ByteArray × List Int × Unit) :
  (CQ funcTab D n 36 [] [.r, .r, .r, .r, .r, .r, .r, .l, .r, .l] (lastK funcTab 36)) (Ex.exit 0) (impl_SkipPut_Q0_0 v0_0 v0_1 v0_2 v0_3 v0_4 v0_5) = impl_SkipPut_x0_0 D n (fun x1_0 x1_1 x1_2 x1_3 x1_4 x1_5 => LQ funcTab D n 36 [.r, .r, .r, .r, .r, .r, .r, .r, .r, .l, .r, .l] n (impl_SkipPut_Q1 x1_0 x1_1 x1_2 x1_3 x1_4 x1_5) (CQ funcTab D n 36 [] [.r, .r, .r, .r, .r, .r, .r, .r, .r, .l, .r, .l] (lastK funcTab 36))) v0_0 v0_1 v0_2 v0_3 v0_4 v0_5 := by kernel_rfl
theorem impl_SkipPut_ELP0 (D : Den ctx) (n : Nat) (x0 : ByteArray) (x1 : Int) (x2 : Int) (x3 : Int) (x4 : List Int × List (ByteArray × List Int × Unit) × Unit) (x5 : List Int × List (ByteArray × List Int × Unit) × Unit) (x6 : List Int) (x7 : ByteArray × List Int × Unit) :
  LQ funcTab D n 36 [.r, .r, .r, .r, .r, .r, .r, .l, .r, .l] n (impl_SkipPut_Q0 x0 x1 x2 x3 x4 x5 x6 x7) (CQ funcTab D n 36 [] [.r, .r, .r, .r, .r, .r, .r, .l, .r, .l] (lastK funcTab 36)) = impl_SkipPut_LP0 D n x0 x1 x2 x3 x4 x5 x6 x7 := by
  rw [impl_SkipPut_EL0]
  simp only [impl_SkipPut_X0_0, impl_SkipPut_ELP1]
  rfl
theorem E_impl_SkipPut (D : Den ctx) (n : Nat) (a0 : List Int × List (ByteArray × List Int × Unit) × Unit) (a1 : ByteArray) : rfC funcTab D n 36 (a0, (a1, ())) = F_impl_SkipPut D n a0 a1 := by
  have h : rfC funcTab D n 36 (a0, (a1, ())) = impl_SkipPut_e D n (fun x0 x1 x2 x3 x4 x5 x6 x7 => LQ funcTab D n 36 [.r, .r, .r, .r, .r, .r, .r, .l, .r, .l] n (impl_SkipPut_Q0 x0 x1 x2 x3 x4 x5 x6 x7) (CQ funcTab D n 36 [] [.r, .r, .r, .r, .r, .r, .r, .l, .r, .l] (lastK funcTab 36))) a0 a1 := by kernel_rfl
  rw [h]
  simp only [impl_SkipPut_ELP0]
  rfl
end Go.G

namespace Go.G
set_option maxRecDepth 100000
set_option maxHeartbeats 0
open Go Go.V
noncomputable def laws_szSkip_e (D : Den ctx) (n : Nat) (a0 : List Int × List (ByteArray × List Int × Unit) × Unit) (a1 : Int) : Option ((Int × Unit) × Unit) := bindD (C_laws_szIntS D (Prod.fst a0) a1) fun b ↦ br (decide (Prod.fst (Prod.fst b) < 0)) (some ((-1, ()), ())) (bindD (C_laws_szLaneS D (Prod.fst (Prod.snd a0)) (Prod.fst (Prod.fst b))) fun b ↦ br (decide (Prod.fst (Prod.fst b) < 0)) (some ((-1, ()), ())) (some ((Prod.fst (Prod.fst b), ()), ())))
noncomputable def F_laws_szSkip (D : Den ctx) (n : Nat) (a0 : List Int × List (ByteArray × List Int × Unit) × Unit) (a1 : Int) : Option ((Int × Unit) × Unit) := laws_szSkip_e D n a0 a1
theorem E_laws_szSkip (D : Den ctx) (n : Nat) (a0 : List Int × List (ByteArray × List Int × Unit) × Unit) (a1 : Int) : rfC funcTab D n 37 (a0, (a1, ())) = F_laws_szSkip D n a0 a1 := by kernel_rfl
end Go.G

namespace Go.G
set_option maxRecDepth 100000
set_option maxHeartbeats 0
open Go Go.V
noncomputable def spec_SkipOk_b1 (D : Den ctx) (n : Nat) (go : List Int → Int → List Int → Int → List Int × List (ByteArray × List Int × Unit) × Unit → Option ((Bool × Unit) × Unit)) (K0 : Bool → List Int → Int → List Int → List Int × List (ByteArray × List Int × Unit) × Unit → Option ((Bool × Unit) × Unit)) (K1 : List Int → Int → List Int → List Int × List (ByteArray × List Int × Unit) × Unit → Option ((Bool × Unit) × Unit)) (x1_0 : List Int) (x1_1 : Int) (x1_2 : List Int) (x1_3 : Int) (x1_4 : List Int × List (ByteArray × List Int × Unit) × Unit) : Option ((Bool × Unit) × Unit) := br (decide (x1_3 < (↑(List.length x1_2) : Int))) (br (decide (0 ≤ x1_3) && decide (x1_3 < (↑(List.length x1_2) : Int))) (bindD (C_spec_l20In D x1_0 (List.getD x1_2 (Int.toNat x1_3) 0)) fun b ↦ br (decide (Prod.fst (Prod.fst b) = 0)) (K0 false x1_0 x1_1 x1_2 x1_4) (go x1_0 x1_1 x1_2 (IntKind.wrap IntKind.i64 (x1_3 + 1)) x1_4)) none) (K1 x1_0 x1_1 x1_2 x1_4)
noncomputable def spec_SkipOk_L1 (D : Den ctx) (n : Nat) (K0 : Bool → List Int → Int → List Int → List Int × List (ByteArray × List Int × Unit) × Unit → Option ((Bool × Unit) × Unit)) (K1 : List Int → Int → List Int → List Int × List (ByteArray × List Int × Unit) × Unit → Option ((Bool × Unit) × Unit)) : Nat → (List Int) → (Int) → (List Int) → (Int) → (List Int × List (ByteArray × List Int × Unit) × Unit) → Option ((Bool × Unit) × Unit) | 0 => (fun x1_0 x1_1 x1_2 x1_3 x1_4 => none) | m + 1 => (fun x1_0 x1_1 x1_2 x1_3 x1_4 => spec_SkipOk_b1 D n (spec_SkipOk_L1 D n K0 K1 m) K0 K1 x1_0 x1_1 x1_2 x1_3 x1_4)
noncomputable def spec_SkipOk_x1_0 (D : Den ctx) (n : Nat) (go : List Int → Int → List Int × List (ByteArray × List Int × Unit) × Unit → Option ((Bool × Unit) × Unit)) (K0 : Bool → Option ((Bool × Unit) × Unit)) (K1 : Option ((Bool × Unit) × Unit)) (v0_0 : Bool) (v0_1 : List Int) (v0_2 : Int) (v0_3 : List Int) (v0_4 : List Int × List (ByteArray × List Int × Unit) × Unit) : Option ((Bool × Unit) × Unit) := K0 v0_0
noncomputable def spec_SkipOk_b2 (D : Den ctx) (n : Nat) (go : List Int → Int → List Int → Int → List Int × List (ByteArray × List Int × Unit) × Unit → Option ((Bool × Unit) × Unit)) (K0 : Bool → List Int → Int → List Int × List (ByteArray × List Int × Unit) × Unit → Option ((Bool × Unit) × Unit)) (K1 : List Int → Int → List Int × List (ByteArray × List Int × Unit) × Unit → Option ((Bool × Unit) × Unit)) (x2_0 : List Int) (x2_1 : Int) (x2_2 : List Int) (x2_3 : Int) (x2_4 : List Int × List (ByteArray × List Int × Unit) × Unit) : Option ((Bool × Unit) × Unit) := br (decide (x2_3 < (↑(List.length x2_0) : Int))) (br (decide (0 ≤ x2_3) && decide (x2_3 < (↑(List.length x2_0) : Int))) (br (decide (0 ≤ List.getD x2_0 (Int.toNat x2_3) 0) && decide (List.getD x2_0 (Int.toNat x2_3) 0 < (↑(List.length (Prod.fst (Prod.snd x2_4))) : Int))) (bindD (C_spec_HeightOf D (Prod.fst (List.getD (Prod.fst (Prod.snd x2_4)) (Int.toNat (List.getD x2_0 (Int.toNat x2_3) 0)) (ByteArray.empty, [], ())))) fun b ↦ br (decide (0 ≤ x2_3) && decide (x2_3 < (↑(List.length x2_0) : Int))) (br (decide (0 ≤ List.getD x2_0 (Int.toNat x2_3) 0) && decide (List.getD x2_0 (Int.toNat x2_3) 0 < (↑(List.length (Prod.fst (Prod.snd x2_4))) : Int))) (br ((↑(List.length (Prod.fst (Prod.snd (List.getD (Prod.fst (Prod.snd x2_4)) (Int.toNat (List.getD x2_0 (Int.toNat x2_3) 0)) (ByteArray.empty, [], ()))))) : Int) != Prod.fst (Prod.fst b)) (K0 false x2_0 x2_1 x2_4) (br (decide (0 ≤ x2_3) && decide (x2_3 < (↑(List.length x2_0) : Int))) (bindD (C_spec_l20In D x2_2 (List.getD x2_0 (Int.toNat x2_3) 0)) fun b_1 ↦ br (!decide (decide (Prod.fst (Prod.fst b_1) = 1) = decide (x2_1 < Prod.fst (Prod.fst b)))) (K0 false x2_0 x2_1 x2_4) (go x2_0 x2_1 x2_2 (IntKind.wrap IntKind.i64 (x2_3 + 1)) x2_4)) none)) none) none) none) none) (K1 x2_0 x2_1 x2_4)
noncomputable def spec_SkipOk_L2 (D : Den ctx) (n : Nat) (K0 : Bool → List Int → Int → List Int × List (ByteArray × List Int × Unit) × Unit → Option ((Bool × Unit) × Unit)) (K1 : List Int → Int → List Int × List (ByteArray × List Int × Unit) × Unit → Option ((Bool × Unit) × Unit)) : Nat → (List Int) → (Int) → (List Int) → (Int) → (List Int × List (ByteArray × List Int × Unit) × Unit) → Option ((Bool × Unit) × Unit) | 0 => (fun x2_0 x2_1 x2_2 x2_3 x2_4 => none) | m + 1 => (fun x2_0 x2_1 x2_2 x2_3 x2_4 => spec_SkipOk_b2 D n (spec_SkipOk_L2 D n K0 K1 m) K0 K1 x2_0 x2_1 x2_2 x2_3 x2_4)
noncomputable def spec_SkipOk_x2_0 (D : Den ctx) (n : Nat) (go : List Int → Int → List Int × List (ByteArray × List Int × Unit) × Unit → Option ((Bool × Unit) × Unit)) (K0 : Bool → Option ((Bool × Unit) × Unit)) (K1 : Option ((Bool × Unit) × Unit)) (v0_0 : Bool) (v0_1 : List Int) (v0_2 : Int) (v0_3 : List Int × List (ByteArray × List Int × Unit) × Unit) : Option ((Bool × Unit) × Unit) := K0 v0_0
noncomputable def spec_SkipOk_x2_1 (D : Den ctx) (n : Nat) (go : List Int → Int → List Int × List (ByteArray × List Int × Unit) × Unit → Option ((Bool × Unit) × Unit)) (K0 : Bool → Option ((Bool × Unit) × Unit)) (K1 : Option ((Bool × Unit) × Unit)) (v1_0 : List Int) (v1_1 : Int) (v1_2 : List Int × List (ByteArray × List Int × Unit) × Unit) : Option ((Bool × Unit) × Unit) := go v1_0 (IntKind.wrap IntKind.i64 (v1_1 + 1)) v1_2
noncomputable def spec_SkipOk_LP2 (D : Den ctx) (n : Nat) (go : List Int → Int → List Int × List (ByteArray × List Int × Unit) × Unit → Option ((Bool × Unit) × Unit)) (K0 : Bool → Option ((Bool × Unit) × Unit)) (K1 : Option ((Bool × Unit) × Unit)) : (List Int) → (Int) → (List Int) → (Int) → (List Int × List (ByteArray × List Int × Unit) × Unit) → Option ((Bool × Unit) × Unit) := (fun x2_0 x2_1 x2_2 x2_3 x2_4 => spec_SkipOk_L2 D n (fun v0_0 v0_1 v0_2 v0_3 => spec_SkipOk_x2_0 D n go K0 K1 v0_0 v0_1 v0_2 v0_3) (fun v1_0 v1_1 v1_2 => spec_SkipOk_x2_1 D n go K0 K1 v1_0 v1_1 v1_2) n x2_0 x2_1 x2_2 x2_3 x2_4)
noncomputable def spec_SkipOk_x1_1 (D : Den ctx) (n : Nat) (go : List Int → Int → List Int × List (ByteArray × List Int × Unit) × Unit → Option ((Bool × Unit) × Unit)) (K0 : Bool → Option ((Bool × Unit) × Unit)) (K1 : Option ((Bool × Unit) × Unit)) (lp2 : List Int → Int → List Int → Int → List Int × List (ByteArray × List Int × Unit) × Unit → Option ((Bool × Unit) × Unit)) (v1_0 : List Int) (v1_1 : Int) (v1_2 : List Int) (v1_3 : List Int × List (ByteArray × List Int × Unit) × Unit) : Option ((Bool × Unit) × Unit) := lp2 v1_0 v1_1 v1_2 0 v1_3
noncomputable def spec_SkipOk_LP1 (D : Den ctx) (n : Nat) (go : List Int → Int → List Int × List (ByteArray × List Int × Unit) × Unit → Option ((Bool × Unit) × Unit)) (K0 : Bool → Option ((Bool × Unit) × Unit)) (K1 : Option ((Bool × Unit) × Unit)) : (List Int) → (Int) → (List Int) → (Int) → (List Int × List (ByteArray × List Int × Unit) × Unit) → Option ((Bool × Unit) × Unit) := (fun x1_0 x1_1 x1_2 x1_3 x1_4 => spec_SkipOk_L1 D n (fun v0_0 v0_1 v0_2 v0_3 v0_4 => spec_SkipOk_x1_0 D n go K0 K1 v0_0 v0_1 v0_2 v0_3 v0_4) (fun v1_0 v1_1 v1_2 v1_3 => spec_SkipOk_x1_1 D n go K0 K1 (spec_SkipOk_LP2 D n go K0 K1) v1_0 v1_1 v1_2 v1_3) n x1_0 x1_1 x1_2 x1_3 x1_4)
noncomputable def spec_SkipOk_b0 (D : Den ctx) (n : Nat) (go : List Int → Int → List Int × List (ByteArray × List Int × Unit) × Unit → Option ((Bool × Unit) × Unit)) (K0 : Bool → Option ((Bool × Unit) × Unit)) (K1 : Option ((Bool × Unit) × Unit)) (lp1 : List Int → Int → List Int → Int → List Int × List (ByteArray × List Int × Unit) × Unit → Option ((Bool × Unit) × Unit)) (x0 : List Int) (x1 : Int) (x2 : List Int × List (ByteArray × List Int × Unit) × Unit) : Option ((Bool × Unit) × Unit) := br (decide (x1 < 4)) (bindD (C_spec_l20Lane D x2 x1) fun b ↦ br (!Prod.fst (Prod.snd (Prod.fst b))) (K0 false) (br (decide (x1 = 0)) (lp1 (Prod.fst (Prod.fst b)) x1 (Prod.fst (Prod.fst b)) 0 x2) (lp1 x0 x1 (Prod.fst (Prod.fst b)) 0 x2))) K1
noncomputable def spec_SkipOk_L0 (D : Den ctx) (n : Nat) (K0 : Bool → Option ((Bool × Unit) × Unit)) (K1 : Option ((Bool × Unit) × Unit)) : Nat → (List Int) → (Int) → (List Int × List (ByteArray × List Int × Unit) × Unit) → Option ((Bool × Unit) × Unit) | 0 => (fun x0 x1 x2 => none) | m + 1 => (fun x0 x1 x2 => spec_SkipOk_b0 D n (spec_SkipOk_L0 D n K0 K1 m) K0 K1 (spec_SkipOk_LP1 D n (spec_SkipOk_L0 D n K0 K1 m) K0 K1) x0 x1 x2)
noncomputable def spec_SkipOk_x0_0 (D : Den ctx) (n : Nat) (v0_0 : Bool) : Option ((Bool × Unit) × Unit) := some ((v0_0, ()), ())
noncomputable def spec_SkipOk_x0_1 (D : Den ctx) (n : Nat) : Option ((Bool × Unit) × Unit) := some ((true, ()), ())
noncomputable def spec_SkipOk_LP0 (D : Den ctx) (n : Nat) : (List Int) → (Int) → (List Int × List (ByteArray × List Int × Unit) × Unit) → Option ((Bool × Unit) × Unit) := (fun x0 x1 x2 => spec_SkipOk_L0 D n (fun v0_0 => spec_SkipOk_x0_0 D n v0_0) (spec_SkipOk_x0_1 D n) n x0 x1 x2)
noncomputable def spec_SkipOk_e (D : Den ctx) (n : Nat) (lp0 : List Int → Int → List Int × List (ByteArray × List Int × Unit) × Unit → Option ((Bool × Unit) × Unit)) (a0 : List Int × List (ByteArray × List Int × Unit) × Unit) : Option ((Bool × Unit) × Unit) := br (bif (↑(List.length (Prod.fst a0)) : Int) != 4 then true else decide ((↑(List.length (Prod.fst (Prod.snd a0))) : Int) > 40)) (some ((false, ()), ())) (lp0 [] 0 a0)
noncomputable def F_spec_SkipOk (D : Den ctx) (n : Nat) (a0 : List Int × List (ByteArray × List Int × Unit) × Unit) : Option ((Bool × Unit) × Unit) := spec_SkipOk_e D n (spec_SkipOk_LP0 D n) a0
def spec_SkipOk_Q0 (x0 : List Int) (x1 : Int) (x2 : List Int × List (ByteArray × List Int × Unit) × Unit) : St := stq 90 [(1, AV.addr 1 []), (3, AV.val (Ty.sl (Ty.int IntKind.i64)) x0), (4, AV.val (Ty.int IntKind.i64) x1)] [(1, Root.mk (Ty.pair (Ty.sl (Ty.int IntKind.i64)) (Ty.pair (Ty.sl (Ty.pair Ty.str (Ty.pair (Ty.sl (Ty.int IntKind.i64)) Ty.unit))) Ty.unit)) Mk.no x2 true)]
def spec_SkipOk_Q0_0 (v0_0 : Bool) : St := stq 90 [(2, AV.val Ty.bool v0_0)] []
def spec_SkipOk_Q0_1 : St := stq 90 [] []
def spec_SkipOk_Q1 (x1_0 : List Int) (x1_1 : Int) (x1_2 : List Int) (x1_3 : Int) (x1_4 : List Int × List (ByteArray × List Int × Unit) × Unit) : St := stq 90 [(1, AV.addr 1 []), (3, AV.val (Ty.sl (Ty.int IntKind.i64)) x1_0), (4, AV.val (Ty.int IntKind.i64) x1_1), (5, AV.val (Ty.sl (Ty.int IntKind.i64)) x1_2), (7, AV.val (Ty.int IntKind.i64) x1_3)] [(1, Root.mk (Ty.pair (Ty.sl (Ty.int IntKind.i64)) (Ty.pair (Ty.sl (Ty.pair Ty.str (Ty.pair (Ty.sl (Ty.int IntKind.i64)) Ty.unit))) Ty.unit)) Mk.no x1_4 true)]
def spec_SkipOk_Q1_0 (v0_0 : Bool) (v0_1 : List Int) (v0_2 : Int) (v0_3 : List Int) (v0_4 : List Int × List (ByteArray × List Int × Unit) × Unit) : St := stq 90 [(1, AV.addr 1 []), (2, AV.val Ty.bool v0_0), (3, AV.val (Ty.sl (Ty.int IntKind.i64)) v0_1), (4, AV.val (Ty.int IntKind.i64) v0_2), (5, AV.val (Ty.sl (Ty.int IntKind.i64)) v0_3)] [(1, Root.mk (Ty.pair (Ty.sl (Ty.int IntKind.i64)) (Ty.pair (Ty.sl (Ty.pair Ty.str (Ty.pair (Ty.sl (Ty.int IntKind.i64)) Ty.unit))) Ty.unit)) Mk.no v0_4 true)]
def spec_SkipOk_Q1_1 (v1_0 : List Int) (v1_1 : Int) (v1_2 : List Int) (v1_3 : List Int × List (ByteArray × List Int × Unit) × Unit) : St := stq 90 [(1, AV.addr 1 []), (3, AV.val (Ty.sl (Ty.int IntKind.i64)) v1_0), (4, AV.val (Ty.int IntKind.i64) v1_1), (5, AV.val (Ty.sl (Ty.int IntKind.i64)) v1_2)] [(1, Root.mk (Ty.pair (Ty.sl (Ty.int IntKind.i64)) (Ty.pair (Ty.sl (Ty.pair Ty.str (Ty.pair (Ty.sl (Ty.int IntKind.i64)) Ty.unit))) Ty.unit)) Mk.no v1_3 true)]
def spec_SkipOk_Q2 (x2_0 : List Int) (x2_1 : Int) (x2_2 : List Int) (x2_3 : Int) (x2_4 : List Int × List (ByteArray × List Int × Unit) × Unit) : St := stq 90 [(1, AV.addr 1 []), (3, AV.val (Ty.sl (Ty.int IntKind.i64)) x2_0), (4, AV.val (Ty.int IntKind.i64) x2_1), (5, AV.val (Ty.sl (Ty.int IntKind.i64)) x2_2), (8, AV.val (Ty.int IntKind.i64) x2_3)] [(1, Root.mk (Ty.pair (Ty.sl (Ty.int IntKind.i64)) (Ty.pair (Ty.sl (Ty.pair Ty.str (Ty.pair (Ty.sl (Ty.int IntKind.i64)) Ty.unit))) Ty.unit)) Mk.no x2_4 true)]
def spec_SkipOk_Q2_0 (v0_0 : Bool) (v0_1 : List Int) (v0_2 : Int) (v0_3 : List Int × List (ByteArray × List Int × Unit) × Unit) : St := stq 90 [(1, AV.addr 1 []), (2, AV.val Ty.bool v0_0), (3, AV.val (Ty.sl (Ty.int IntKind.i64)) v0_1), (4, AV.val (Ty.int IntKind.i64) v0_2)] [(1, Root.mk (Ty.pair (Ty.sl (Ty.int IntKind.i64)) (Ty.pair (Ty.sl (Ty.pair Ty.str (Ty.pair (Ty.sl (Ty.int IntKind.i64)) Ty.unit))) Ty.unit)) Mk.no v0_3 true)]
def spec_SkipOk_Q2_1 (v1_0 : List Int) (v1_1 : Int) (v1_2 : List Int × List (ByteArray × List Int × Unit) × Unit) : St := stq 90 [(1, AV.addr 1 []), (3, AV.val (Ty.sl (Ty.int IntKind.i64)) v1_0), (4, AV.val (Ty.int IntKind.i64) v1_1)] [(1, Root.mk (Ty.pair (Ty.sl (Ty.int IntKind.i64)) (Ty.pair (Ty.sl (Ty.pair Ty.str (Ty.pair (Ty.sl (Ty.int IntKind.i64)) Ty.unit))) Ty.unit)) Mk.no v1_2 true)]
theorem spec_SkipOk_SB1 (D : Den ctx) (n : Nat) (m : Nat) (K : Ex → St → Option (Out ctx 38)) (x1_0 : List Int) (x1_1 : Int) (x1_2 : List Int) (x1_3 : Int) (x1_4 : List Int × List (ByteArray × List Int × Unit) × Unit) :
  LQ funcTab D n 38 [.r, .r, .r, .l, .r, .l, .l, .r, .l, .l, .r, .r, .r, .l, .r, .l] (m + 1) (spec_SkipOk_Q1 x1_0 x1_1 x1_2 x1_3 x1_4) K = spec_SkipOk_b1 D n (fun x1_0 x1_1 x1_2 x1_3 x1_4 => LQ funcTab D n 38 [.r, .r, .r, .l, .r, .l, .l, .r, .l, .l, .r, .r, .r, .l, .r, .l] m (spec_SkipOk_Q1 x1_0 x1_1 x1_2 x1_3 x1_4) K) (fun v0_0 v0_1 v0_2 v0_3 v0_4 => K (Ex.ret) (spec_SkipOk_Q1_0 v0_0 v0_1 v0_2 v0_3 v0_4)) (fun v1_0 v1_1 v1_2 v1_3 => K (Ex.exit 2) (spec_SkipOk_Q1_1 v1_0 v1_1 v1_2 v1_3)) x1_0 x1_1 x1_2 x1_3 x1_4 := by kernel_rfl
theorem spec_SkipOk_EL1 (D : Den ctx) (n : Nat) (K : Ex → St → Option (Out ctx 38)) : ∀ (m : Nat) (x1_0 : List Int) (x1_1 : Int) (x1_2 : List Int) (x1_3 : Int) (x1_4 : List Int × List (ByteArray × List Int × Unit) × Unit), LQ funcTab D n 38 [.r, .r, .r, .l, .r, .l, .l, .r, .l, .l, .r, .r, .r, .l, .r, .l] m (spec_SkipOk_Q1 x1_0 x1_1 x1_2 x1_3 x1_4) K = spec_SkipOk_L1 D n (fun v0_0 v0_1 v0_2 v0_3 v0_4 => K (Ex.ret) (spec_SkipOk_Q1_0 v0_0 v0_1 v0_2 v0_3 v0_4)) (fun v1_0 v1_1 v1_2 v1_3 => K (Ex.exit 2) (spec_SkipOk_Q1_1 v1_0 v1_1 v1_2 v1_3)) m x1_0 x1_1 x1_2 x1_3 x1_4
  | 0, x1_0, x1_1, x1_2, x1_3, x1_4 => LQ_zero ..
  | m + 1, x1_0, x1_1, x1_2, x1_3, x1_4 => by
    have ih : (fun x1_0 x1_1 x1_2 x1_3 x1_4 => LQ funcTab D n 38 [.r, .r, .r, .l, .r, .l, .l, .r, .l, .l, .r, .r, .r, .l, .r, .l] m (spec_SkipOk_Q1 x1_0 x1_1 x1_2 x1_3 x1_4) K) = spec_SkipOk_L1 D n (fun v0_0 v0_1 v0_2 v0_3 v0_4 => K (Ex.ret) (spec_SkipOk_Q1_0 v0_0 v0_1 v0_2 v0_3 v0_4)) (fun v1_0 v1_1 v1_2 v1_3 => K (Ex.exit 2) (spec_SkipOk_Q1_1 v1_0 v1_1 v1_2 v1_3)) m := by funext x1_0 x1_1 x1_2 x1_3 x1_4; exact spec_SkipOk_EL1 D n K m x1_0 x1_1 x1_2 x1_3 x1_4
    rw [spec_SkipOk_SB1]
    rw [ih]; rfl
theorem spec_SkipOk_SB2 (D : Den ctx) (n : Nat) (m : Nat) (K : Ex → St → Option (Out ctx 38)) (x2_0 : List Int) (x2_1 : Int) (x2_2 : List Int) (x2_3 : Int) (x2_4 : List Int × List (ByteArray × List Int × Unit) × Unit) :
  LQ funcTab D n 38 [.r, .r, .r, .l, .r, .l, .l, .r, .l, .l, .r, .r, .r, .r, .r, .l] (m + 1) (spec_SkipOk_Q2 x2_0 x2_1 x2_2 x2_3 x2_4) K = spec_SkipOk_b2 D n (fun x2_0 x2_1 x2_2 x2_3 x2_4 => LQ funcTab D n 38 [.r, .r, .r, .l, .r, .l, .l, .r, .l, .l, .r, .r, .r, .r, .r, .l] m (spec_SkipOk_Q2 x2_0 x2_1 x2_2 x2_3 x2_4) K) (fun v0_0 v0_1 v0_2 v0_3 => K (Ex.ret) (spec_SkipOk_Q2_0 v0_0 v0_1 v0_2 v0_3)) (fun v1_0 v1_1 v1_2 => K (Ex.exit 4) (spec_SkipOk_Q2_1 v1_0 v1_1 v1_2)) x2_0 x2_1 x2_2 x2_3 x2_4 := by kernel_rfl
theorem spec_SkipOk_EL2 (D : Den ctx) (n : Nat) (K : Ex → St → Option (Out ctx 38)) : ∀ (m : Nat) (x2_0 : List Int) (x2_1 : Int) (x2_2 : List Int) (x2_3 : Int) (x2_4 : List Int × List (ByteArray × List Int × Unit) × Unit), LQ funcTab D n 38 [.r, .r, .r, .l, .r, .l, .l, .r, .l, .l, .r, .r, .r, .r, .r, .l] m (spec_SkipOk_Q2 x2_0 x2_1 x2_2 x2_3 x2_4) K = spec_SkipOk_L2 D n (fun v0_0 v0_1 v0_2 v0_3 => K (Ex.ret) (spec_SkipOk_Q2_0 v0_0 v0_1 v0_2 v0_3)) (fun v1_0 v1_1 v1_2 => K (Ex.exit 4) (spec_SkipOk_Q2_1 v1_0 v1_1 v1_2)) m x2_0 x2_1 x2_2 x2_3 x2_4
  | 0, x2_0, x2_1, x2_2, x2_3, x2_4 => LQ_zero ..
  | m + 1, x2_0, x2_1, x2_2, x2_3, x2_4 => by
    have ih : (fun x2_0 x2_1 x2_2 x2_3 x2_4 => LQ funcTab D n 38 [.r, .r, .r, .l, .r, .l, .l, .r, .l, .l, .r, .r, .r, .r, .r, .l] m (spec_SkipOk_Q2 x2_0 x2_1 x2_2 x2_3 x2_4) K) = spec_SkipOk_L2 D n (fun v0_0 v0_1 v0_2 v0_3 => K (Ex.ret) (spec_SkipOk_Q2_0 v0_0 v0_1 v0_2 v0_3)) (fun v1_0 v1_1 v1_2 => K (Ex.exit 4) (spec_SkipOk_Q2_1 v1_0 v1_1 v1_2)) m := by funext x2_0 x2_1 x2_2 x2_3 x2_4; exact spec_SkipOk_EL2 D n K m x2_0 x2_1 x2_2 x2_3 x2_4
    rw [spec_SkipOk_SB2]
    rw [ih]; rfl
theorem spec_SkipOk_X2_0 (D : Den ctx) (n : Nat) (m : Nat) (K : Ex → St → Option (Out ctx 38)) (v0_0 : Bool) (v0_1 : List Int) (v0_2 : Int) (v0_3 : List Int × List (ByteArray × List Int × Unit) × Unit) :
  (CQ funcTab D n 38 [.r, .r, .r, .l, .r, .l, .l] [.r, .l, .l, .r, .r, .r, .r, .r, .l] (LK funcTab D n 38 [.r, .r, .r, .l, .r, .l] m K)) (Ex.ret) (spec_SkipOk_Q2_0 v0_0 v0_1 v0_2 v0_3) = spec_SkipOk_x2_0 D n (fun x0 x1 x2 => LQ funcTab D n 38 [.r, .r, .r, .l, .r, .l] m (spec_SkipOk_Q0 x0 x1 x2) K) (fun v0_0 => K (Ex.ret) (spec_SkipOk_Q0_0 v0_0)) (K (Ex.exit 0) (spec_SkipOk_Q0_1)) v0_0 v0_1 v0_2 v0_3 := by kernel_rfl
theorem spec_SkipOk_X2_1 (D : Den ctx) (n : Nat) (m : Nat) (K : Ex → St → Option (Out ctx 38)) (v1_0 : List Int) (v1_1 : Int) (v1_2 : List Int × List (ByteArray × List Int × Unit) × Unit) :
  (CQ funcTab D n 38 [.r, .r, .r, .l, .r, .l, .l] [.r, .l, .l, .r, .r, .r, .r, .r, .l] (LK funcTab D n 38 [.r, .r, .r, .l, .r, .l] m K)) (Ex.exit 4) (spec_SkipOk_Q2_1 v1_0 v1_1 v1_2) = spec_SkipOk_x2_1 D n (fun x0 x1 x2 => LQ funcTab D n 38 [.r, .r, .r, .l, .r, .l] m (spec_SkipOk_Q0 x0 x1 x2) K) (fun v0_0 => K (Ex.ret) (spec_SkipOk_Q0_0 v0_0)) (K (Ex.exit 0) (spec_SkipOk_Q0_1)) v1_0 v1_1 v1_2 := by kernel_rfl
theorem spec_SkipOk_ELP2 (D : Den ctx) (n : Nat) (m : Nat) (K : Ex → St → Option (Out ctx 38)) (x2_0 : List Int) (x2_1 : Int) (x2_2 : List Int) (x2_3 : Int) (x2_4 : List Int × List (ByteArray × List Int × Unit) × Unit) :
  LQ funcTab D n 38 [.r, .r, .r, .l, .r, .l, .l, .r, .l, .l, .r, .r, .r, .r, .r, .l] n (spec_SkipOk_Q2 x2_0 x2_1 x2_2 x2_3 x2_4) (CQ funcTab D n 38 [.r, .r, .r, .l, .r, .l, .l] [.r, .l, .l, .r, .r, .r, .r, .r, .l] (LK funcTab D n 38 [.r, .r, .r, .l, .r, .l] m K)) = spec_SkipOk_LP2 D n (fun x0 x1 x2 => LQ funcTab D n 38 [.r, .r, .r, .l, .r, .l] m (spec_SkipOk_Q0 x0 x1 x2) K) (fun v0_0 => K (Ex.ret) (spec_SkipOk_Q0_0 v0_0)) (K (Ex.exit 0) (spec_SkipOk_Q0_1)) x2_0 x2_1 x2_2 x2_3 x2_4 := by
  rw [spec_SkipOk_EL2]
  simp only [spec_SkipOk_X2_0, spec_SkipOk_X2_1]
  rfl
theorem spec_SkipOk_X1_0 (D : Den ctx) (n : Nat) (m : Nat) (K : Ex → St → Option (Out ctx 38)) (v0_0 : Bool) (v0_1 : List Int) (v0_2 : Int) (v0_3 : List Int) (v0_4 : List Int × List (ByteArray × List Int × Unit) × Unit) :
  (CQ funcTab D n 38 [.r, .r, .r, .l, .r, .l, .l] [.r, .l, .l, .r, .r, .r, .l, .r, .l] (LK funcTab D n 38 [.r, .r, .r, .l, .r, .l] m K)) (Ex.ret) (spec_SkipOk_Q1_0 v0_0 v0_1 v0_2 v0_3 v0_4) = spec_SkipOk_x1_0 D n (fun x0 x1 x2 => LQ funcTab D n 38 [.r, .r, .r, .l, .r, .l] m (spec_SkipOk_Q0 x0 x1 x2) K) (fun v0_0 => K (Ex.ret) (spec_SkipOk_Q0_0 v0_0)) (K (Ex.exit 0) (spec_SkipOk_Q0_1)) v0_0 v0_1 v0_2 v0_3 v0_4 := by kernel_rfl
theorem spec_SkipOk_X1_1 (D : Den ctx) (n : Nat) (m : Nat) (K : Ex → St → Option (Out ctx 38)) (v1_0 : List Int) (v1_1 : Int) (v1_2 : List Int) (v1_3 : List Int × List (ByteArray × List Int × Unit) × Unit) :
  (CQ funcTab D n 38 [.r, .r, .r, .l, .r, .l, .l] [.r, .l, .l, .r, .r, .r, .l, .r, .l] (LK funcTab D n 38 [.r, .r, .r, .l, .r, .l] m K)) (Ex.exit 2) (spec_SkipOk_Q1_1 v1_0 v1_1 v1_2 v1_3) = spec_SkipOk_x1_1 D n (fun x0 x1 x2 => LQ funcTab D n 38 [.r, .r, .r, .l, .r, .l] m (spec_SkipOk_Q0 x0 x1 x2) K) (fun v0_0 => K (Ex.ret) (spec_SkipOk_Q0_0 v0_0)) (K (Ex.exit 0) (spec_SkipOk_Q0_1)) (fun x2_0 x2_1 x2_2 x2_3 x2_4 => LQ funcTab D n 38 [.r, .r, .r, .l, .r, .l, .l, .r, .l, .l, .r, .r, .r, .r, .r, .l] n (spec_SkipOk_Q2 x2_0 x2_1 x2_2 x2_3 x2_4) (CQ funcTab D n 38 [.r, .r, .r, .l, .r, .l, .l] [.r, .l, .l, .r, .r, .r, .r, .r, .l] (LK funcTab D n 38 [.r, .r, .r, .l, .r, .l] m K))) v1_0 v1_1 v1_2 v1_3 := by kernel_rfl
theorem spec_SkipOk_ELP1 (D : Den ctx) (n : Nat) (m : Nat) (K : Ex → St → Option (Out ctx 38)) (x1_0 : List Int) (x1_1 : Int) (x1_2 : List Int) (x1_3 : Int) (x1_4 : List Int × List (ByteArray × List Int × Unit) × Unit) :
  LQ funcTab D n 38 [.r, .r, .r, .l, .r, .l, .l, .r, .l, .l, .r, .r, .r, .l, .r, .l] n (spec_SkipOk_Q1 x1_0 x1_1 x1_2 x1_3 x1_4) (CQ funcTab D n 38 [.r, .r, .r, .l, .r, .l, .l] [.r, .l, .l, .r, .r, .r, .l, .r, .l] (LK funcTab D n 38 [.r, .r, .r, .l, .r, .l] m K)) = spec_SkipOk_LP1 D n (fun x0 x1 x2 => LQ funcTab D n 38 [.r, .r, .r, .l, .r, .l] m (spec_SkipOk_Q0 x0 x1 x2) K) (fun v0_0 => K (Ex.ret) (spec_SkipOk_Q0_0 v0_0)) (K (Ex.exit 0) (spec_SkipOk_Q0_1)) x1_0 x1_1 x1_2 x1_3 x1_4 := by
  rw [spec_SkipOk_EL1]
  simp only [spec_SkipOk_X1_0, spec_SkipOk_X1_1, spec_SkipOk_ELP2]
  rfl
theorem spec_SkipOk_SB0 (D : Den ctx) (n : Nat) (m : Nat) (K : Ex → St → Option (Out ctx 38)) (x0 : List Int) (x1 : Int) (x2 : List Int × List (ByteArray × List Int × Unit) × Unit) :
  LQ funcTab D n 38 [.r, .r, .r, .l, .r, .l] (m + 1) (spec_SkipOk_Q0 x0 x1 x2) K = spec_SkipOk_b0 D n (fun x0 x1 x2 => LQ funcTab D n 38 [.r, .r, .r, .l, .r, .l] m (spec_SkipOk_Q0 x0 x1 x2) K) (fun v0_0 => K (Ex.ret) (spec_SkipOk_Q0_0 v0_0)) (K (Ex.exit 0) (spec_SkipOk_Q0_1)) (fun x1_0 x1_1 x1_2 x1_3 x1_4 => LQ funcTab D n 38 [.r, .r, .r, .l, .r, .l, .l, .r, .l, .l, .r, .r, .r, .l, .r, .l] n (spec_SkipOk_Q1 x1_0 x1_1 x1_2 x1_3 x1_4) (CQ funcTab D n 38 [.r, .r, .r, .l, .r, .l, .l] [.r, .l, .l, .r, .r, .r, .l, .r, .l] (LK funcTab D n 38 [.r, .r, .r, .l, .r, .l] m K))) x0 x1 x2 := by kernel_rfl
theorem spec_SkipOk_EL0 (D : Den ctx) (n : Nat) (K : Ex → St → Option (Out ctx 38)) : ∀ (m : Nat) (x0 : List Int) (x1 : Int) (x2 : List Int × List (ByteArray × List Int × Unit) × Unit), LQ funcTab D n 38 [.r, .r, .r, .l, .r, .l] m (spec_SkipOk_Q0 x0 x1 x2) K = spec_SkipOk_L0 D n (fun v0_0 => K (Ex.ret) (spec_SkipOk_Q0_0 v0_0)) (K (Ex.exit 0) (spec_SkipOk_Q0_1)) m x0 x1 x2
  | 0, x0, x1, x2 => LQ_zero ..
  | m + 1, x0, x1, x2 => by
    have ih : (fun x0 x1 x2 => LQ funcTab D n 38 [.r, .r, .r, .l, .r, .l] m (spec_SkipOk_Q0 x0 x1 x2) K) = spec_SkipOk_L0 D n (fun v0_0 => K (Ex.ret) (spec_SkipOk_Q0_0 v0_0)) (K (Ex.exit 0) (spec_SkipOk_Q0_1)) m := by funext x0 x1 x2; exact spec_SkipOk_EL0 D n K m x0 x1 x2
    rw [spec_SkipOk_SB0]
    simp only [spec_SkipOk_ELP1]
    rw [ih]; rfl
theorem spec_SkipOk_X0_0 (D : Den ctx) (n : Nat) (v0_0 : Bool) :
  (CQ funcTab D n 38 [] [.r, .r, .r, .l, .r, .l] (lastK funcTab 38)) (Ex.ret) (spec_SkipOk_Q0_0 v0_0) = spec_SkipOk_x0_0 D n v0_0 := by kernel_rfl
theorem spec_SkipOk_X0_1 (D : Den ctx) (n : Nat) :
  (CQ funcTab D n 38 [] [.r, .r, .r, .l, .r, .l] (lastK funcTab 38)) (Ex.exit 0) (spec_SkipOk_Q0_1) = spec_SkipOk_x0_1 D n := by kernel_rfl
theorem spec_SkipOk_ELP0 (D : Den ctx) (n : Nat) (x0 : List Int) (x1 : Int) (x2 : List Int × List (ByteArray × List Int × Unit) × Unit) :
  LQ funcTab D n 38 [.r, .r, .r, .l, .r, .l] n (spec_SkipOk_Q0 x0 x1 x2) (CQ funcTab D n 38 [] [.r, .r, .r, .l, .r, .l] (lastK funcTab 38)) = spec_SkipOk_LP0 D n x0 x1 x2 := by
  rw [spec_SkipOk_EL0]
  simp only [spec_SkipOk_X0_0, spec_SkipOk_X0_1]
  rfl
theorem E_spec_SkipOk (D : Den ctx) (n : Nat) (a0 : List Int × List (ByteArray × List Int × Unit) × Unit) : rfC funcTab D n 38 (a0, ()) = F_spec_SkipOk D n a0 := by
  have h : rfC funcTab D n 38 (a0, ()) = spec_SkipOk_e D n (fun x0 x1 x2 => LQ funcTab D n 38 [.r, .r, .r, .l, .r, .l] n (spec_SkipOk_Q0 x0 x1 x2) (CQ funcTab D n 38 [] [.r, .r, .r, .l, .r, .l] (lastK funcTab 38))) a0 := by kernel_rfl
  rw [h]
  simp only [spec_SkipOk_ELP0]
  rfl
end Go.G

namespace Go.G
set_option maxRecDepth 100000
set_option maxHeartbeats 0
open Go Go.V
noncomputable def laws_toSkip_e (D : Den ctx) (n : Nat) (a0 : List Int × List (ByteArray × List Int × Unit) × Unit) : Option (((List Int × List (ByteArray × List Int × Unit) × Unit) × Unit) × Unit) := bindD (C_laws_toIntS D (Prod.fst a0)) fun b ↦ bindD (C_laws_toLaneS D (Prod.fst (Prod.snd a0))) fun b_1 ↦ some (((Prod.fst (Prod.fst b), Prod.fst (Prod.fst b_1), ()), ()), ())
noncomputable def F_laws_toSkip (D : Den ctx) (n : Nat) (a0 : List Int × List (ByteArray × List Int × Unit) × Unit) : Option (((List Int × List (ByteArray × List Int × Unit) × Unit) × Unit) × Unit) := laws_toSkip_e D n a0
theorem E_laws_toSkip (D : Den ctx) (n : Nat) (a0 : List Int × List (ByteArray × List Int × Unit) × Unit) : rfC funcTab D n 39 (a0, ()) = F_laws_toSkip D n a0 := by kernel_rfl
end Go.G

namespace Go.G
set_option maxRecDepth 100000
set_option maxHeartbeats 0
open Go Go.V
noncomputable def impl_SkipOk_b1 (D : Den ctx) (n : Nat) (go : Int → Int → Int → List Int × List (ByteArray × List Int × Unit) × Unit → List Int → List Int → Option ((Bool × Unit) × Unit)) (K0 : Int → List Int × List (ByteArray × List Int × Unit) × Unit → List Int → Option ((Bool × Unit) × Unit)) (x1_0 : Int) (x1_1 : Int) (x1_2 : Int) (x1_3 : List Int × List (ByteArray × List Int × Unit) × Unit) (x1_4 : List Int) (x1_5 : List Int) : Option ((Bool × Unit) × Unit) := br (decide (x1_2 < x1_1)) (br (decide (0 ≤ x1_2) && decide (x1_2 < (↑(List.length x1_5) : Int))) (br (decide (0 ≤ List.getD x1_5 (Int.toNat x1_2) 0) && decide (List.getD x1_5 (Int.toNat x1_2) 0 < (↑(List.length x1_4) : Int))) (br (decide (0 ≤ List.getD x1_5 (Int.toNat x1_2) 0) && decide (List.getD x1_5 (Int.toNat x1_2) 0 < (↑(List.length x1_4) : Int))) (go x1_0 x1_1 (IntKind.wrap IntKind.i64 (x1_2 + 1)) x1_3 (List.set x1_4 (Int.toNat (List.getD x1_5 (Int.toNat x1_2) 0)) (IntKind.wrap IntKind.i64 (List.getD x1_4 (Int.toNat (List.getD x1_5 (Int.toNat x1_2) 0)) 0 + 1))) x1_5) none) none) none) (K0 x1_0 x1_3 x1_4)
noncomputable def impl_SkipOk_L1 (D : Den ctx) (n : Nat) (K0 : Int → List Int × List (ByteArray × List Int × Unit) × Unit → List Int → Option ((Bool × Unit) × Unit)) : Nat → (Int) → (Int) → (Int) → (List Int × List (ByteArray × List Int × Unit) × Unit) → (List Int) → (List Int) → Option ((Bool × Unit) × Unit) | 0 => (fun x1_0 x1_1 x1_2 x1_3 x1_4 x1_5 => none) | m + 1 => (fun x1_0 x1_1 x1_2 x1_3 x1_4 x1_5 => impl_SkipOk_b1 D n (impl_SkipOk_L1 D n K0 m) K0 x1_0 x1_1 x1_2 x1_3 x1_4 x1_5)
noncomputable def impl_SkipOk_x1_0 (D : Den ctx) (n : Nat) (go : Int → List Int × List (ByteArray × List Int × Unit) × Unit → List Int → Option ((Bool × Unit) × Unit)) (K0 : Bool → List Int × List (ByteArray × List Int × Unit) × Unit → List Int → Option ((Bool × Unit) × Unit)) (K1 : List Int × List (ByteArray × List Int × Unit) × Unit → List Int → Option ((Bool × Unit) × Unit)) (v0_0 : Int) (v0_1 : List Int × List (ByteArray × List Int × Unit) × Unit) (v0_2 : List Int) : Option ((Bool × Unit) × Unit) := go (IntKind.wrap IntKind.i64 (v0_0 + 1)) v0_1 v0_2
noncomputable def impl_SkipOk_LP1 (D : Den ctx) (n : Nat) (go : Int → List Int × List (ByteArray × List Int × Unit) × Unit → List Int → Option ((Bool × Unit) × Unit)) (K0 : Bool → List Int × List (ByteArray × List Int × Unit) × Unit → List Int → Option ((Bool × Unit) × Unit)) (K1 : List Int × List (ByteArray × List Int × Unit) × Unit → List Int → Option ((Bool × Unit) × Unit)) : (Int) → (Int) → (Int) → (List Int × List (ByteArray × List Int × Unit) × Unit) → (List Int) → (List Int) → Option ((Bool × Unit) × Unit) := (fun x1_0 x1_1 x1_2 x1_3 x1_4 x1_5 => impl_SkipOk_L1 D n (fun v0_0 v0_1 v0_2 => impl_SkipOk_x1_0 D n go K0 K1 v0_0 v0_1 v0_2) n x1_0 x1_1 x1_2 x1_3 x1_4 x1_5)
noncomputable def impl_SkipOk_b0 (D : Den ctx) (n : Nat) (go : Int → List Int × List (ByteArray × List Int × Unit) × Unit → List Int → Option ((Bool × Unit) × Unit)) (K0 : Bool → List Int × List (ByteArray × List Int × Unit) × Unit → List Int → Option ((Bool × Unit) × Unit)) (K1 : List Int × List (ByteArray × List Int × Unit) × Unit → List Int → Option ((Bool × Unit) × Unit)) (lp1 : Int → Int → Int → List Int × List (ByteArray × List Int × Unit) × Unit → List Int → List Int → Option ((Bool × Unit) × Unit)) (x0 : Int) (x1 : List Int × List (ByteArray × List Int × Unit) × Unit) (x2 : List Int) : Option ((Bool × Unit) × Unit) := br (decide (x0 < 4)) (bindD (C_impl_laneOf D x1 x0) fun b ↦ br (!Prod.fst (Prod.snd (Prod.fst b))) (K0 false x1 x2) (lp1 x0 (↑(List.length (Prod.fst (Prod.fst b))) : Int) 0 x1 x2 (Prod.fst (Prod.fst b)))) (K1 x1 x2)
noncomputable def impl_SkipOk_L0 (D : Den ctx) (n : Nat) (K0 : Bool → List Int × List (ByteArray × List Int × Unit) × Unit → List Int → Option ((Bool × Unit) × Unit)) (K1 : List Int × List (ByteArray × List Int × Unit) × Unit → List Int → Option ((Bool × Unit) × Unit)) : Nat → (Int) → (List Int × List (ByteArray × List Int × Unit) × Unit) → (List Int) → Option ((Bool × Unit) × Unit) | 0 => (fun x0 x1 x2 => none) | m + 1 => (fun x0 x1 x2 => impl_SkipOk_b0 D n (impl_SkipOk_L0 D n K0 K1 m) K0 K1 (impl_SkipOk_LP1 D n (impl_SkipOk_L0 D n K0 K1 m) K0 K1) x0 x1 x2)
noncomputable def impl_SkipOk_x0_0 (D : Den ctx) (n : Nat) (v0_0 : Bool) (v0_1 : List Int × List (ByteArray × List Int × Unit) × Unit) (v0_2 : List Int) : Option ((Bool × Unit) × Unit) := some ((v0_0, ()), ())
noncomputable def impl_SkipOk_b2 (D : Den ctx) (n : Nat) (go : List (ByteArray × List Int × Unit) → Int → Int → List Int → Option ((Bool × Unit) × Unit)) (K0 : Bool → Option ((Bool × Unit) × Unit)) (K1 : Option ((Bool × Unit) × Unit)) (x2_0 : List (ByteArray × List Int × Unit)) (x2_1 : Int) (x2_2 : Int) (x2_3 : List Int) : Option ((Bool × Unit) × Unit) := br (decide (x2_2 < x2_1)) (br (decide (0 ≤ x2_2) && decide (x2_2 < (↑(List.length x2_0) : Int))) (br (decide (0 ≤ x2_2) && decide (x2_2 < (↑(List.length x2_3) : Int))) (br (decide (List.getD x2_3 (Int.toNat x2_2) 0 > 0)) (bindD (C_impl_HeightOf D (Prod.fst (List.getD x2_0 (Int.toNat x2_2) (ByteArray.empty, [], ())))) fun b ↦ br ((↑(List.length (Prod.fst (Prod.snd (List.getD x2_0 (Int.toNat x2_2) (ByteArray.empty, [], ()))))) : Int) != Prod.fst (Prod.fst b)) (K0 false) (br (decide (0 ≤ x2_2) && decide (x2_2 < (↑(List.length x2_3) : Int))) (br (List.getD x2_3 (Int.toNat x2_2) 0 != (↑(List.length (Prod.fst (Prod.snd (List.getD x2_0 (Int.toNat x2_2) (ByteArray.empty, [], ()))))) : Int)) (K0 false) (go x2_0 x2_1 (IntKind.wrap IntKind.i64 (x2_2 + 1)) x2_3)) none)) (go x2_0 x2_1 (IntKind.wrap IntKind.i64 (x2_2 + 1)) x2_3)) none) none) K1
noncomputable def impl_SkipOk_L2 (D : Den ctx) (n : Nat) (K0 : Bool → Option ((Bool × Unit) × Unit)) (K1 : Option ((Bool × Unit) × Unit)) : Nat → (List (ByteArray × List Int × Unit)) → (Int) → (Int) → (List Int) → Option ((Bool × Unit) × Unit) | 0 => (fun x2_0 x2_1 x2_2 x2_3 => none) | m + 1 => (fun x2_0 x2_1 x2_2 x2_3 => impl_SkipOk_b2 D n (impl_SkipOk_L2 D n K0 K1 m) K0 K1 x2_0 x2_1 x2_2 x2_3)
noncomputable def impl_SkipOk_x2_0 (D : Den ctx) (n : Nat) (v0_0 : Bool) : Option ((Bool × Unit) × Unit) := some ((v0_0, ()), ())
noncomputable def impl_SkipOk_x2_1 (D : Den ctx) (n : Nat) : Option ((Bool × Unit) × Unit) := some ((true, ()), ())
noncomputable def impl_SkipOk_LP2 (D : Den ctx) (n : Nat) : (List (ByteArray × List Int × Unit)) → (Int) → (Int) → (List Int) → Option ((Bool × Unit) × Unit) := (fun x2_0 x2_1 x2_2 x2_3 => impl_SkipOk_L2 D n (fun v0_0 => impl_SkipOk_x2_0 D n v0_0) (impl_SkipOk_x2_1 D n) n x2_0 x2_1 x2_2 x2_3)
noncomputable def impl_SkipOk_x0_1 (D : Den ctx) (n : Nat) (lp2 : List (ByteArray × List Int × Unit) → Int → Int → List Int → Option ((Bool × Unit) × Unit)) (v1_0 : List Int × List (ByteArray × List Int × Unit) × Unit) (v1_1 : List Int) : Option ((Bool × Unit) × Unit) := lp2 (Prod.fst (Prod.snd v1_0)) (↑(List.length (Prod.fst (Prod.snd v1_0))) : Int) 0 v1_1
noncomputable def impl_SkipOk_LP0 (D : Den ctx) (n : Nat) : (Int) → (List Int × List (ByteArray × List Int × Unit) × Unit) → (List Int) → Option ((Bool × Unit) × Unit) := (fun x0 x1 x2 => impl_SkipOk_L0 D n (fun v0_0 v0_1 v0_2 => impl_SkipOk_x0_0 D n v0_0 v0_1 v0_2) (fun v1_0 v1_1 => impl_SkipOk_x0_1 D n (impl_SkipOk_LP2 D n) v1_0 v1_1) n x0 x1 x2)
noncomputable def impl_SkipOk_e (D : Den ctx) (n : Nat) (lp0 : Int → List Int × List (ByteArray × List Int × Unit) × Unit → List Int → Option ((Bool × Unit) × Unit)) (a0 : List Int × List (ByteArray × List Int × Unit) × Unit) : Option ((Bool × Unit) × Unit) := br (bif (↑(List.length (Prod.fst a0)) : Int) != 4 then true else decide ((↑(List.length (Prod.fst (Prod.snd a0))) : Int) > 40)) (some ((false, ()), ())) (br (decide (0 ≤ (↑(List.length (Prod.fst (Prod.snd a0))) : Int)) && decide ((↑(List.length (Prod.fst (Prod.snd a0))) : Int) ≤ (↑(List.length (Prod.fst (Prod.snd a0))) : Int)) && decide ((↑(List.length (Prod.fst (Prod.snd a0))) : Int) ≤ (↑bound : Int))) (lp0 0 a0 (List.replicate (Int.toNat (↑(List.length (Prod.fst (Prod.snd a0))) : Int)) 0)) none)
noncomputable def F_impl_SkipOk (D : Den ctx) (n : Nat) (a0 : List Int × List (ByteArray × List Int × Unit) × Unit) : Option ((Bool × Unit) × Unit) := impl_SkipOk_e D n (impl_SkipOk_LP0 D n) a0
def impl_SkipOk_Q0 (x0 : Int) (x1 : List Int × List (ByteArray × List Int × Unit) × Unit) (x2 : List Int) : St := stq 83 [(1, AV.addr 1 []), (3, AV.brw 3 [] 0), (25, AV.val (Ty.int IntKind.i64) x0)] [(1, Root.mk (Ty.pair (Ty.sl (Ty.int IntKind.i64)) (Ty.pair (Ty.sl (Ty.pair Ty.str (Ty.pair (Ty.sl (Ty.int IntKind.i64)) Ty.unit))) Ty.unit)) Mk.no x1 true), (3, Root.mk (Ty.sl (Ty.int IntKind.i64)) (Mk.own 0 Mk.no) x2 false)]
def impl_SkipOk_Q0_0 (v0_0 : Bool) (v0_1 : List Int × List (ByteArray × List Int × Unit) × Unit) (v0_2 : List Int) : St := stq 83 [(1, AV.addr 1 []), (2, AV.val Ty.bool v0_0), (3, AV.brw 3 [] 0)] [(1, Root.mk (Ty.pair (Ty.sl (Ty.int IntKind.i64)) (Ty.pair (Ty.sl (Ty.pair Ty.str (Ty.pair (Ty.sl (Ty.int IntKind.i64)) Ty.unit))) Ty.unit)) Mk.no v0_1 true), (3, Root.mk (Ty.sl (Ty.int IntKind.i64)) (Mk.own 0 Mk.no) v0_2 false)]
def impl_SkipOk_Q0_1 (v1_0 : List Int × List (ByteArray × List Int × Unit) × Unit) (v1_1 : List Int) : St := stq 83 [(1, AV.addr 1 []), (3, AV.brw 3 [] 0)] [(1, Root.mk (Ty.pair (Ty.sl (Ty.int IntKind.i64)) (Ty.pair (Ty.sl (Ty.pair Ty.str (Ty.pair (Ty.sl (Ty.int IntKind.i64)) Ty.unit))) Ty.unit)) Mk.no v1_0 true), (3, Root.mk (Ty.sl (Ty.int IntKind.i64)) (Mk.own 0 Mk.no) v1_1 false)]
def impl_SkipOk_Q1 (x1_0 : Int) (x1_1 : Int) (x1_2 : Int) (x1_3 : List Int × List (ByteArray × List Int × Unit) × Unit) (x1_4 : List Int) (x1_5 : List Int) : St := stq 83 [(1, AV.addr 1 []), (3, AV.brw 3 [] 0), (25, AV.val (Ty.int IntKind.i64) x1_0), (36, AV.brw 5 [] 0), (37, AV.val (Ty.int IntKind.i64) x1_1), (38, AV.val (Ty.int IntKind.i64) x1_2)] [(1, Root.mk (Ty.pair (Ty.sl (Ty.int IntKind.i64)) (Ty.pair (Ty.sl (Ty.pair Ty.str (Ty.pair (Ty.sl (Ty.int IntKind.i64)) Ty.unit))) Ty.unit)) Mk.no x1_3 true), (3, Root.mk (Ty.sl (Ty.int IntKind.i64)) (Mk.own 0 Mk.no) x1_4 false), (5, Root.mk (Ty.sl (Ty.int IntKind.i64)) (Mk.own 0 Mk.no) x1_5 false)]
def impl_SkipOk_Q1_0 (v0_0 : Int) (v0_1 : List Int × List (ByteArray × List Int × Unit) × Unit) (v0_2 : List Int) : St := stq 83 [(1, AV.addr 1 []), (3, AV.brw 3 [] 0), (25, AV.val (Ty.int IntKind.i64) v0_0)] [(1, Root.mk (Ty.pair (Ty.sl (Ty.int IntKind.i64)) (Ty.pair (Ty.sl (Ty.pair Ty.str (Ty.pair (Ty.sl (Ty.int IntKind.i64)) Ty.unit))) Ty.unit)) Mk.no v0_1 true), (3, Root.mk (Ty.sl (Ty.int IntKind.i64)) (Mk.own 0 Mk.no) v0_2 false)]
def impl_SkipOk_Q2 (x2_0 : List (ByteArray × List Int × Unit)) (x2_1 : Int) (x2_2 : Int) (x2_3 : List Int) : St := stq 83 [(3, AV.brw 3 [] 0), (51, AV.val (Ty.sl (Ty.pair Ty.str (Ty.pair (Ty.sl (Ty.int IntKind.i64)) Ty.unit))) x2_0), (52, AV.val (Ty.int IntKind.i64) x2_1), (53, AV.val (Ty.int IntKind.i64) x2_2)] [(3, Root.mk (Ty.sl (Ty.int IntKind.i64)) (Mk.own 0 Mk.no) x2_3 false)]
def impl_SkipOk_Q2_0 (v0_0 : Bool) : St := stq 83 [(2, AV.val Ty.bool v0_0)] []
def impl_SkipOk_Q2_1 : St := stq 83 [] []
theorem impl_SkipOk_SB1 (D : Den ctx) (n : Nat) (m : Nat) (K : Ex → St → Option (Out ctx 40)) (x1_0 : Int) (x1_1 : Int) (x1_2 : Int) (x1_3 : List Int × List (ByteArray × List Int × Unit) × Unit) (x1_4 : List Int) (x1_5 : List Int) :
  LQ funcTab D n 40 [.r, .r, .r, .l, .r, .l, .l, .r, .r, .l, .l, .r, .r, .r, .r, .l] (m + 1) (impl_SkipOk_Q1 x1_0 x1_1 x1_2 x1_3 x1_4 x1_5) K = impl_SkipOk_b1 D n (fun x1_0 x1_1 x1_2 x1_3 x1_4 x1_5 => LQ funcTab D n 40 [.r, .r, .r, .l, .r, .l, .l, .r, .r, .l, .l, .r, .r, .r, .r, .l] m (impl_SkipOk_Q1 x1_0 x1_1 x1_2 x1_3 x1_4 x1_5) K) (fun v0_0 v0_1 v0_2 => K (Ex.exit 2) (impl_SkipOk_Q1_0 v0_0 v0_1 v0_2)) x1_0 x1_1 x1_2 x1_3 x1_4 x1_5 := by kernel_rfl
theorem impl_SkipOk_EL1 (D : Den ctx) (n : Nat) (K : Ex → St → Option (Out ctx 40)) : ∀ (m : Nat) (x1_0 : Int) (x1_1 : Int) (x1_2 : Int) (x1_3 : List Int × List (ByteArray × List Int × Unit) × Unit) (x1_4 : List Int) (x1_5 : List Int), LQ funcTab D n 40 [.r, .r, .r, .l, .r, .l, .l, .r, .r, .l, .l, .r, .r, .r, .r, .l] m (impl_SkipOk_Q1 x1_0 x1_1 x1_2 x1_3 x1_4 x1_5) K = impl_SkipOk_L1 D n (fun v0_0 v0_1 v0_2 => K (Ex.exit 2) (impl_SkipOk_Q1_0 v0_0 v0_1 v0_2)) m x1_0 x1_1 x1_2 x1_3 x1_4 x1_5
  | 0, x1_0, x1_1, x1_2, x1_3, x1_4, x1_5 => LQ_zero ..
  | m + 1, x1_0, x1_1, x1_2, x1_3, x1_4, x1_5 => by
    have ih : (fun x1_0 x1_1 x1_2 x1_3 x1_4 x1_5 => LQ funcTab D n 40 [.r, .r, .r, .l, .r, .l, .l, .r, .r, .l, .l, .r, .r, .r, .r, .l] m (impl_SkipOk_Q1 x1_0 x1_1 x1_2 x1_3 x1_4 x1_5) K) = impl_SkipOk_L1 D n (fun v0_0 v0_1 v0_2 => K (Ex.exit 2) (impl_SkipOk_Q1_0 v0_0 v0_1 v0_2)) m := by funext x1_0 x1_1 x1_2 x1_3 x1_4 x1_5; exact impl_SkipOk_EL1 D n K m x1_0 x1_1 x1_2 x1_3 x1_4 x1_5
    rw [impl_SkipOk_SB1]
    rw [ih]; rfl
theorem impl_SkipOk_X1_0 (D : Den ctx) (n : Nat) (m : Nat) (K : Ex → St → Option (Out ctx 40)) (v0_0 : Int) (v0_1 : List Int × List (ByteArray × List Int × Unit) × Unit) (v0_2 : List Int) :
  (CQ funcTab D n 40 [.r, .r, .r, .l, .r, .l, .l] [.r, .r, .l, .l, .r, .r, .r, .r, .l] (LK funcTab D n 40 [.r, .r, .r, .l, .r, .l] m K)) (Ex.exit 2) (impl_SkipOk_Q1_0 v0_0 v0_1 v0_2) = impl_SkipOk_x1_0 D n (fun x0 x1 x2 => LQ funcTab D n 40 [.r, .r, .r, .l, .r, .l] m (impl_SkipOk_Q0 x0 x1 x2) K) (fun v0_0 v0_1 v0_2 => K (Ex.ret) (impl_SkipOk_Q0_0 v0_0 v0_1 v0_2)) (fun v1_0 v1_1 => K (Ex.exit 0) (impl_SkipOk_Q0_1 v1_0 v1_1)) v0_0 v0_1 v0_2 := by kernel_rfl
theorem impl_SkipOk_ELP1 (D : Den ctx) (n : Nat) (m : Nat) (K : Ex → St → Option (Out ctx 40)) (x1_0 : Int) (x1_1 : Int) (x1_2 : Int) (x1_3 : List Int × List (ByteArray × List Int × Unit) × Unit) (x1_4 : List Int) (x1_5 : List Int) :
  LQ funcTab D n 40 [.r, .r, .r, .l, .r, .l, .l, .r, .r, .l, .l, .r, .r, .r, .r, .l] n (impl_SkipOk_Q1 x1_0 x1_1 x1_2 x1_3 x1_4 x1_5) (CQ funcTab D n 40 [.r, .r, .r, .l, .r, .l, .l] [.r, .r, .l, .l, .r, .r, .r, .r, .l] (LK funcTab D n 40 [.r, .r, .r, .l, .r, .l] m K)) = impl_SkipOk_LP1 D n (fun x0 x1 x2 => LQ funcTab D n 40 [.r, .r, .r, .l, .r, .l] m (impl_SkipOk_Q0 x0 x1 x2) K) (fun v0_0 v0_1 v0_2 => K (Ex.ret) (impl_SkipOk_Q0_0 v0_0 v0_1 v0_2)) (fun v1_0 v1_1 => K (Ex.exit 0) (impl_SkipOk_Q0_1 v1_0 v1_1)) x1_0 x1_1 x1_2 x1_3 x1_4 x1_5 := by
  rw [impl_SkipOk_EL1]
  simp only [impl_SkipOk_X1_0]
  rfl
theorem impl_SkipOk_SB0 (D : Den ctx) (n : Nat) (m : Nat) (K : Ex → St → Option (Out ctx 40)) (x0 : Int) (x1 : List Int × List (ByteArray × List Int × Unit) × Unit) (x2 : List Int) :
  LQ funcTab D n 40 [.r, .r, .r, .l, .r, .l] (m + 1) (impl_SkipOk_Q0 x0 x1 x2) K = impl_SkipOk_b0 D n (fun x0 x1 x2 => LQ funcTab D n 40 [.r, .r, .r, .l, .r, .l] m (impl_SkipOk_Q0 x0 x1 x2) K) (fun v0_0 v0_1 v0_2 => K (Ex.ret) (impl_SkipOk_Q0_0 v0_0 v0_1 v0_2)) (fun v1_0 v1_1 => K (Ex.exit 0) (impl_SkipOk_Q0_1 v1_0 v1_1)) (fun x1_0 x1_1 x1_2 x1_3 x1_4 x1_5 => LQ funcTab D n 40 [.r, .r, .r, .l, .r, .l, .l, .r, .r, .l, .l, .r, .r, .r, .r, .l] n (impl_SkipOk_Q1 x1_0 x1_1 x1_2 x1_3 x1_4 x1_5) (CQ funcTab D n 40 [.r, .r, .r, .l, .r, .l, .l] [.r, .r, .l, .l, .r, .r, .r, .r, .l] (LK funcTab D n 40 [.r, .r, .r, .l, .r, .l] m K))) x0 x1 x2 := by kernel_rfl
theorem impl_SkipOk_EL0 (D : Den ctx) (n : Nat) (K : Ex → St → Option (Out ctx 40)) : ∀ (m : Nat) (x0 : Int) (x1 : List Int × List (ByteArray × List Int × Unit) × Unit) (x2 : List Int), LQ funcTab D n 40 [.r, .r, .r, .l, .r, .l] m (impl_SkipOk_Q0 x0 x1 x2) K = impl_SkipOk_L0 D n (fun v0_0 v0_1 v0_2 => K (Ex.ret) (impl_SkipOk_Q0_0 v0_0 v0_1 v0_2)) (fun v1_0 v1_1 => K (Ex.exit 0) (impl_SkipOk_Q0_1 v1_0 v1_1)) m x0 x1 x2
  | 0, x0, x1, x2 => LQ_zero ..
  | m + 1, x0, x1, x2 => by
    have ih : (fun x0 x1 x2 => LQ funcTab D n 40 [.r, .r, .r, .l, .r, .l] m (impl_SkipOk_Q0 x0 x1 x2) K) = impl_SkipOk_L0 D n (fun v0_0 v0_1 v0_2 => K (Ex.ret) (impl_SkipOk_Q0_0 v0_0 v0_1 v0_2)) (fun v1_0 v1_1 => K (Ex.exit 0) (impl_SkipOk_Q0_1 v1_0 v1_1)) m := by funext x0 x1 x2; exact impl_SkipOk_EL0 D n K m x0 x1 x2
    rw [impl_SkipOk_SB0]
    simp only [impl_SkipOk_ELP1]
    rw [ih]; rfl
theorem impl_SkipOk_SB2 (D : Den ctx) (n : Nat) (m : Nat) (K : Ex → St → Option (Out ctx 40)) (x2_0 : List (ByteArray × List Int × Unit)) (x2_1 : Int) (x2_2 : Int) (x2_3 : List Int) :
  LQ funcTab D n 40 [.r, .r, .r, .r, .l, .r, .l] (m + 1) (impl_SkipOk_Q2 x2_0 x2_1 x2_2 x2_3) K = impl_SkipOk_b2 D n (fun x2_0 x2_1 x2_2 x2_3 => LQ funcTab D n 40 [.r, .r, .r, .r, .l, .r, .l] m (impl_SkipOk_Q2 x2_0 x2_1 x2_2 x2_3) K) (fun v0_0 => K (Ex.ret) (impl_SkipOk_Q2_0 v0_0)) (K (Ex.exit 4) (impl_SkipOk_Q2_1)) x2_0 x2_1 x2_2 x2_3 := by kernel_rfl
theorem impl_SkipOk_EL2 (D : Den ctx) (n : Nat) (K : Ex → St → Option (Out ctx 40)) : ∀ (m : Nat) (x2_0 : List (ByteArray × List Int × Unit)) (x2_1 : Int) (x2_2 : Int) (x2_3 : List Int), LQ funcTab D n 40 [.r, .r, .r, .r, .l, .r, .l] m (impl_SkipOk_Q2 x2_0 x2_1 x2_2 x2_3) K = impl_SkipOk_L2 D n (fun v0_0 => K (Ex.ret) (impl_SkipOk_Q2_0 v0_0)) (K (Ex.exit 4) (impl_SkipOk_Q2_1)) m x2_0 x2_1 x2_2 x2_3
  | 0, x2_0, x2_1, x2_2, x2_3 => LQ_zero ..
  | m + 1, x2_0, x2_1, x2_2, x2_3 => by
    have ih : (fun x2_0 x2_1 x2_2 x2_3 => LQ funcTab D n 40 [.r, .r, .r, .r, .l, .r, .l] m (impl_SkipOk_Q2 x2_0 x2_1 x2_2 x2_3) K) = impl_SkipOk_L2 D n (fun v0_0 => K (Ex.ret) (impl_SkipOk_Q2_0 v0_0)) (K (Ex.exit 4) (impl_SkipOk_Q2_1)) m := by funext x2_0 x2_1 x2_2 x2_3; exact impl_SkipOk_EL2 D n K m x2_0 x2_1 x2_2 x2_3
    rw [impl_SkipOk_SB2]
    rw [ih]; rfl
theorem impl_SkipOk_X2_0 (D : Den ctx) (n : Nat) (v0_0 : Bool) :
  (CQ funcTab D n 40 [] [.r, .r, .r, .r, .l, .r, .l] (lastK funcTab 40)) (Ex.ret) (impl_SkipOk_Q2_0 v0_0) = impl_SkipOk_x2_0 D n v0_0 := by kernel_rfl
theorem impl_SkipOk_X2_1 (D : Den ctx) (n : Nat) :
  (CQ funcTab D n 40 [] [.r, .r, .r, .r, .l, .r, .l] (lastK funcTab 40)) (Ex.exit 4) (impl_SkipOk_Q2_1) = impl_SkipOk_x2_1 D n := by kernel_rfl
theorem impl_SkipOk_ELP2 (D : Den ctx) (n : Nat) (x2_0 : List (ByteArray × List Int × Unit)) (x2_1 : Int) (x2_2 : Int) (x2_3 : List Int) :
  LQ funcTab D n 40 [.r, .r, .r, .r, .l, .r, .l] n (impl_SkipOk_Q2 x2_0 x2_1 x2_2 x2_3) (CQ funcTab D n 40 [] [.r, .r, .r, .r, .l, .r, .l] (lastK funcTab 40)) = impl_SkipOk_LP2 D n x2_0 x2_1 x2_2 x2_3 := by
  rw [impl_SkipOk_EL2]
  simp only [impl_SkipOk_X2_0, impl_SkipOk_X2_1]
  rfl
theorem impl_SkipOk_X0_0 (D : Den ctx) (n : Nat) (v0_0 : Bool) (v0_1 : List Int × List (ByteArray × List Int × Unit) × Unit) (v0_2 : List Int) :
  (CQ funcTab D n 40 [] [.r, .r, .r, .l, .r, .l] (lastK funcTab 40)) (Ex.ret) (impl_SkipOk_Q0_0 v0_0 v0_1 v0_2) = impl_SkipOk_x0_0 D n v0_0 v0_1 v0_2 := by kernel_rfl
theorem impl_SkipOk_X0_1 (D : Den ctx) (n : Nat) (v1_0 : List Int × List (ByteArray × List Int × Unit) × Unit) (v1_1 : List Int) :
  (CQ funcTab D n 40 [] [.r, .r, .r, .l, .r, .l] (lastK funcTab 40)) (Ex.exit 0) (impl_SkipOk_Q0_1 v1_0 v1_1) = impl_SkipOk_x0_1 D n (fun x2_0 x2_1 x2_2 x2_3 => LQ funcTab D n 40 [.r, .r, .r, .r, .l, .r, .l] n (impl_SkipOk_Q2 x2_0 x2_1 x2_2 x2_3) (CQ funcTab D n 40 [] [.r, .r, .r, .r, .l, .r, .l] (lastK funcTab 40))) v1_0 v1_1 := by kernel_rfl
theorem impl_SkipOk_ELP0 (D : Den ctx) (n : Nat) (x0 : Int) (x1 : List Int × List (ByteArray × List Int × Unit) × Unit) (x2 : List Int) :
  LQ funcTab D n 40 [.r, .r, .r, .l, .r, .l] n (impl_SkipOk_Q0 x0 x1 x2) (CQ funcTab D n 40 [] [.r, .r, .r, .l, .r, .l] (lastK funcTab 40)) = impl_SkipOk_LP0 D n x0 x1 x2 := by
  rw [impl_SkipOk_EL0]
  simp only [impl_SkipOk_X0_0, impl_SkipOk_X0_1, impl_SkipOk_ELP2]
  rfl
theorem E_impl_SkipOk (D : Den ctx) (n : Nat) (a0 : List Int × List (ByteArray × List Int × Unit) × Unit) : rfC funcTab D n 40 (a0, ()) = F_impl_SkipOk D n a0 := by
  have h : rfC funcTab D n 40 (a0, ()) = impl_SkipOk_e D n (fun x0 x1 x2 => LQ funcTab D n 40 [.r, .r, .r, .l, .r, .l] n (impl_SkipOk_Q0 x0 x1 x2) (CQ funcTab D n 40 [] [.r, .r, .r, .l, .r, .l] (lastK funcTab 40))) a0 := by kernel_rfl
  rw [h]
  simp only [impl_SkipOk_ELP0]
  rfl
end Go.G

namespace Go.G
set_option maxRecDepth 100000
set_option maxHeartbeats 0
open Go Go.V
noncomputable def spec_DrawSkipAll_e (D : Den ctx) (n : Nat) (a0 : List Int) : Option (((List Int × List (ByteArray × List Int × Unit) × Unit) × Unit) × Unit) := bindD (C_spec_l1New D a0) fun b ↦ bindD (C_spec_l20Draw D (Prod.fst (Prod.fst b))) fun b ↦ some (((Prod.fst (Prod.fst (Prod.fst b)), Prod.fst (Prod.snd (Prod.fst (Prod.fst b))), ()), ()), ())
noncomputable def F_spec_DrawSkipAll (D : Den ctx) (n : Nat) (a0 : List Int) : Option (((List Int × List (ByteArray × List Int × Unit) × Unit) × Unit) × Unit) := spec_DrawSkipAll_e D n a0
theorem E_spec_DrawSkipAll (D : Den ctx) (n : Nat) (a0 : List Int) : rfC funcTab D n 43 (a0, ()) = F_spec_DrawSkipAll D n a0 := by kernel_rfl
end Go.G

namespace Go.G
set_option maxRecDepth 100000
set_option maxHeartbeats 0
open Go Go.V
noncomputable def impl_SkipAll_b0 (D : Den ctx) (n : Nat) (go : Int → Int → List Int × List (ByteArray × List Int × Unit) × Unit → List ByteArray → List Int → Option ((List ByteArray × Unit) × Unit)) (K0 : List ByteArray → Option ((List ByteArray × Unit) × Unit)) (x0 : Int) (x1 : Int) (x2 : List Int × List (ByteArray × List Int × Unit) × Unit) (x3 : List ByteArray) (x4 : List Int) : Option ((List ByteArray × Unit) × Unit) := br (decide (x1 < x0)) (br (decide (0 ≤ x1) && decide (x1 < (↑(List.length x4) : Int))) (br (decide (0 ≤ List.getD x4 (Int.toNat x1) 0) && decide (List.getD x4 (Int.toNat x1) 0 < (↑(List.length (Prod.fst (Prod.snd x2))) : Int))) (br (decide (List.length x3 + 1 ≤ bound)) (go x0 (IntKind.wrap IntKind.i64 (x1 + 1)) x2 (x3 ++ [Prod.fst (List.getD (Prod.fst (Prod.snd x2)) (Int.toNat (List.getD x4 (Int.toNat x1) 0)) (ByteArray.empty, [], ()))]) x4) none) none) none) (K0 x3)
noncomputable def impl_SkipAll_L0 (D : Den ctx) (n : Nat) (K0 : List ByteArray → Option ((List ByteArray × Unit) × Unit)) : Nat → (Int) → (Int) → (List Int × List (ByteArray × List Int × Unit) × Unit) → (List ByteArray) → (List Int) → Option ((List ByteArray × Unit) × Unit) | 0 => (fun x0 x1 x2 x3 x4 => none) | m + 1 => (fun x0 x1 x2 x3 x4 => impl_SkipAll_b0 D n (impl_SkipAll_L0 D n K0 m) K0 x0 x1 x2 x3 x4)
noncomputable def impl_SkipAll_x0_0 (D : Den ctx) (n : Nat) (v0_0 : List ByteArray) : Option ((List ByteArray × Unit) × Unit) := some ((v0_0, ()), ())
noncomputable def impl_SkipAll_LP0 (D : Den ctx) (n : Nat) : (Int) → (Int) → (List Int × List (ByteArray × List Int × Unit) × Unit) → (List ByteArray) → (List Int) → Option ((List ByteArray × Unit) × Unit) := (fun x0 x1 x2 x3 x4 => impl_SkipAll_L0 D n (fun v0_0 => impl_SkipAll_x0_0 D n v0_0) n x0 x1 x2 x3 x4)
noncomputable def impl_SkipAll_e (D : Den ctx) (n : Nat) (lp0 : Int → Int → List Int × List (ByteArray × List Int × Unit) × Unit → List ByteArray → List Int → Option ((List ByteArray × Unit) × Unit)) (a0 : List Int × List (ByteArray × List Int × Unit) × Unit) : Option ((List ByteArray × Unit) × Unit) := bindD (C_impl_SkipOk D a0) fun b ↦ br (!Prod.fst (Prod.fst b)) (some (([], ()), ())) (bindD (C_impl_laneOf D a0 0) fun b ↦ lp0 (↑(List.length (Prod.fst (Prod.fst b))) : Int) 0 a0 [] (Prod.fst (Prod.fst b)))
noncomputable def F_impl_SkipAll (D : Den ctx) (n : Nat) (a0 : List Int × List (ByteArray × List Int × Unit) × Unit) : Option ((List ByteArray × Unit) × Unit) := impl_SkipAll_e D n (impl_SkipAll_LP0 D n) a0
def impl_SkipAll_Q0 (x0 : Int) (x1 : Int) (x2 : List Int × List (ByteArray × List Int × Unit) × Unit) (x3 : List ByteArray) (x4 : List Int) : St := stq 35 [(1, AV.addr 1 []), (3, AV.brw 3 [] 0), (18, AV.brw 4 [] 0), (19, AV.val (Ty.int IntKind.i64) x0), (20, AV.val (Ty.int IntKind.i64) x1)] [(1, Root.mk (Ty.pair (Ty.sl (Ty.int IntKind.i64)) (Ty.pair (Ty.sl (Ty.pair Ty.str (Ty.pair (Ty.sl (Ty.int IntKind.i64)) Ty.unit))) Ty.unit)) Mk.no x2 true), (3, Root.mk (Ty.sl Ty.str) (Mk.own 0 Mk.no) x3 false), (4, Root.mk (Ty.sl (Ty.int IntKind.i64)) (Mk.own 0 Mk.no) x4 false)]
def impl_SkipAll_Q0_0 (v0_0 : List ByteArray) : St := stq 35 [(3, AV.brw 3 [] 0)] [(3, Root.mk (Ty.sl Ty.str) (Mk.own 0 Mk.no) v0_0 false)]
theorem impl_SkipAll_SB0 (D : Den ctx) (n : Nat) (m : Nat) (K : Ex → St → Option (Out ctx 44)) (x0 : Int) (x1 : Int) (x2 : List Int × List (ByteArray × List Int × Unit) × Unit) (x3 : List ByteArray) (x4 : List Int) :
  LQ funcTab D n 44 [.r, .r, .r, .r, .l, .r, .l] (m + 1) (impl_SkipAll_Q0 x0 x1 x2 x3 x4) K = impl_SkipAll_b0 D n (fun x0 x1 x2 x3 x4 => LQ funcTab D n 44 [.r, .r, .r, .r, .l, .r, .l] m (impl_SkipAll_Q0 x0 x1 x2 x3 x4) K) (fun v0_0 => K (Ex.exit 0) (impl_SkipAll_Q0_0 v0_0)) x0 x1 x2 x3 x4 := by kernel_rfl
theorem impl_SkipAll_EL0 (D : Den ctx) (n : Nat) (K : Ex → St → Option (Out ctx 44)) : ∀ (m : Nat) (x0 : Int) (x1 : Int) (x2 : List Int × List (ByteArray × List Int × Unit) × Unit) (x3 : List ByteArray) (x4 : List Int), LQ funcTab D n 44 [.r, .r, .r, .r, .l, .r, .l] m (impl_SkipAll_Q0 x0 x1 x2 x3 x4) K = impl_SkipAll_L0 D n (fun v0_0 => K (Ex.exit 0) (impl_SkipAll_Q0_0 v0_0)) m x0 x1 x2 x3 x4
  | 0, x0, x1, x2, x3, x4 => LQ_zero ..
  | m + 1, x0, x1, x2, x3, x4 => by
    have ih : (fun x0 x1 x2 x3 x4 => LQ funcTab D n 44 [.r, .r, .r, .r, .l, .r, .l] m (impl_SkipAll_Q0 x0 x1 x2 x3 x4) K) = impl_SkipAll_L0 D n (fun v0_0 => K (Ex.exit 0) (impl_SkipAll_Q0_0 v0_0)) m := by funext x0 x1 x2 x3 x4; exact impl_SkipAll_EL0 D n K m x0 x1 x2 x3 x4
    rw [impl_SkipAll_SB0]
    rw [ih]; rfl
theorem impl_SkipAll_X0_0 (D : Den ctx) (n : Nat) (v0_0 : List ByteArray) :
  (CQ funcTab D n 44 [] [.r, .r, .r, .r, .l, .r, .l] (lastK funcTab 44)) (Ex.exit 0) (impl_SkipAll_Q0_0 v0_0) = impl_SkipAll_x0_0 D n v0_0 := by kernel_rfl
theorem impl_SkipAll_ELP0 (D : Den ctx) (n : Nat) (x0 : Int) (x1 : Int) (x2 : List Int × List (ByteArray × List Int × Unit) × Unit) (x3 : List ByteArray) (x4 : List Int) :
  LQ funcTab D n 44 [.r, .r, .r, .r, .l, .r, .l] n (impl_SkipAll_Q0 x0 x1 x2 x3 x4) (CQ funcTab D n 44 [] [.r, .r, .r, .r, .l, .r, .l] (lastK funcTab 44)) = impl_SkipAll_LP0 D n x0 x1 x2 x3 x4 := by
  rw [impl_SkipAll_EL0]
  simp only [impl_SkipAll_X0_0]
  rfl
theorem E_impl_SkipAll (D : Den ctx) (n : Nat) (a0 : List Int × List (ByteArray × List Int × Unit) × Unit) : rfC funcTab D n 44 (a0, ()) = F_impl_SkipAll D n a0 := by
  have h : rfC funcTab D n 44 (a0, ()) = impl_SkipAll_e D n (fun x0 x1 x2 x3 x4 => LQ funcTab D n 44 [.r, .r, .r, .r, .l, .r, .l] n (impl_SkipAll_Q0 x0 x1 x2 x3 x4) (CQ funcTab D n 44 [] [.r, .r, .r, .r, .l, .r, .l] (lastK funcTab 44))) a0 := by kernel_rfl
  rw [h]
  simp only [impl_SkipAll_ELP0]
  rfl
end Go.G

namespace Go.G
set_option maxRecDepth 100000
set_option maxHeartbeats 0
open Go Go.V
noncomputable def spec_SkipAll_b0 (D : Den ctx) (n : Nat) (go : Int → List Int × List (ByteArray × List Int × Unit) × Unit → List ByteArray → List Int → Option ((List ByteArray × Unit) × Unit)) (K0 : List ByteArray → Option ((List ByteArray × Unit) × Unit)) (x0 : Int) (x1 : List Int × List (ByteArray × List Int × Unit) × Unit) (x2 : List ByteArray) (x3 : List Int) : Option ((List ByteArray × Unit) × Unit) := br (decide (x0 < (↑(List.length x3) : Int))) (br (decide (0 ≤ x0) && decide (x0 < (↑(List.length x3) : Int))) (br (decide (0 ≤ List.getD x3 (Int.toNat x0) 0) && decide (List.getD x3 (Int.toNat x0) 0 < (↑(List.length (Prod.fst (Prod.snd x1))) : Int))) (br (decide (List.length x2 + 1 ≤ bound)) (go (IntKind.wrap IntKind.i64 (x0 + 1)) x1 (x2 ++ [Prod.fst (List.getD (Prod.fst (Prod.snd x1)) (Int.toNat (List.getD x3 (Int.toNat x0) 0)) (ByteArray.empty, [], ()))]) x3) none) none) none) (K0 x2)
noncomputable def spec_SkipAll_L0 (D : Den ctx) (n : Nat) (K0 : List ByteArray → Option ((List ByteArray × Unit) × Unit)) : Nat → (Int) → (List Int × List (ByteArray × List Int × Unit) × Unit) → (List ByteArray) → (List Int) → Option ((List ByteArray × Unit) × Unit) | 0 => (fun x0 x1 x2 x3 => none) | m + 1 => (fun x0 x1 x2 x3 => spec_SkipAll_b0 D n (spec_SkipAll_L0 D n K0 m) K0 x0 x1 x2 x3)
noncomputable def spec_SkipAll_x0_0 (D : Den ctx) (n : Nat) (v0_0 : List ByteArray) : Option ((List ByteArray × Unit) × Unit) := some ((v0_0, ()), ())
noncomputable def spec_SkipAll_LP0 (D : Den ctx) (n : Nat) : (Int) → (List Int × List (ByteArray × List Int × Unit) × Unit) → (List ByteArray) → (List Int) → Option ((List ByteArray × Unit) × Unit) := (fun x0 x1 x2 x3 => spec_SkipAll_L0 D n (fun v0_0 => spec_SkipAll_x0_0 D n v0_0) n x0 x1 x2 x3)
noncomputable def spec_SkipAll_e (D : Den ctx) (n : Nat) (lp0 : Int → List Int × List (ByteArray × List Int × Unit) × Unit → List ByteArray → List Int → Option ((List ByteArray × Unit) × Unit)) (a0 : List Int × List (ByteArray × List Int × Unit) × Unit) : Option ((List ByteArray × Unit) × Unit) := bindD (C_spec_SkipOk D a0) fun b ↦ br (!Prod.fst (Prod.fst b)) (some (([], ()), ())) (bindD (C_spec_l20Lane D a0 0) fun b ↦ lp0 0 a0 [] (Prod.fst (Prod.fst b)))
noncomputable def F_spec_SkipAll (D : Den ctx) (n : Nat) (a0 : List Int × List (ByteArray × List Int × Unit) × Unit) : Option ((List ByteArray × Unit) × Unit) := spec_SkipAll_e D n (spec_SkipAll_LP0 D n) a0
def spec_SkipAll_Q0 (x0 : Int) (x1 : List Int × List (ByteArray × List Int × Unit) × Unit) (x2 : List ByteArray) (x3 : List Int) : St := stq 36 [(1, AV.addr 1 []), (3, AV.brw 3 [] 0), (4, AV.brw 4 [] 0), (6, AV.val (Ty.int IntKind.i64) x0)] [(1, Root.mk (Ty.pair (Ty.sl (Ty.int IntKind.i64)) (Ty.pair (Ty.sl (Ty.pair Ty.str (Ty.pair (Ty.sl (Ty.int IntKind.i64)) Ty.unit))) Ty.unit)) Mk.no x1 true), (3, Root.mk (Ty.sl Ty.str) (Mk.own 0 Mk.no) x2 false), (4, Root.mk (Ty.sl (Ty.int IntKind.i64)) (Mk.own 0 Mk.no) x3 false)]
def spec_SkipAll_Q0_0 (v0_0 : List ByteArray) : St := stq 36 [(3, AV.brw 3 [] 0)] [(3, Root.mk (Ty.sl Ty.str) (Mk.own 0 Mk.no) v0_0 false)]
theorem spec_SkipAll_SB0 (D : Den ctx) (n : Nat) (m : Nat) (K : Ex → St → Option (Out ctx 45)) (x0 : Int) (x1 : List Int × List (ByteArray × List Int × Unit) × Unit) (x2 : List ByteArray) (x3 : List Int) :
  LQ funcTab D n 45 [.r, .r, .r, .r, .l, .r, .l] (m + 1) (spec_SkipAll_Q0 x0 x1 x2 x3) K = spec_SkipAll_b0 D n (fun x0 x1 x2 x3 => LQ funcTab D n 45 [.r, .r, .r, .r, .l, .r, .l] m (spec_SkipAll_Q0 x0 x1 x2 x3) K) (fun v0_0 => K (Ex.exit 0) (spec_SkipAll_Q0_0 v0_0)) x0 x1 x2 x3 := by kernel_rfl
theorem spec_SkipAll_EL0 (D : Den ctx) (n : Nat) (K : Ex → St → Option (Out ctx 45)) : ∀ (m : Nat) (x0 : Int) (x1 : List Int × List (ByteArray × List Int × Unit) × Unit) (x2 : List ByteArray) (x3 : List Int), LQ funcTab D n 45 [.r, .r, .r, .r, .l, .r, .l] m (spec_SkipAll_Q0 x0 x1 x2 x3) K = spec_SkipAll_L0 D n (fun v0_0 => K (Ex.exit 0) (spec_SkipAll_Q0_0 v0_0)) m x0 x1 x2 x3
  | 0, x0, x1, x2, x3 => LQ_zero ..
  | m + 1, x0, x1, x2, x3 => by
    have ih : (fun x0 x1 x2 x3 => LQ funcTab D n 45 [.r, .r, .r, .r, .l, .r, .l] m (spec_SkipAll_Q0 x0 x1 x2 x3) K) = spec_SkipAll_L0 D n (fun v0_0 => K (Ex.exit 0) (spec_SkipAll_Q0_0 v0_0)) m := by funext x0 x1 x2 x3; exact spec_SkipAll_EL0 D n K m x0 x1 x2 x3
    rw [spec_SkipAll_SB0]
    rw [ih]; rfl
theorem spec_SkipAll_X0_0 (D : Den ctx) (n : Nat) (v0_0 : List ByteArray) :
  (CQ funcTab D n 45 [] [.r, .r, .r, .r, .l, .r, .l] (lastK funcTab 45)) (Ex.exit 0) (spec_SkipAll_Q0_0 v0_0) = spec_SkipAll_x0_0 D n v0_0 := by kernel_rfl
theorem spec_SkipAll_ELP0 (D : Den ctx) (n : Nat) (x0 : Int) (x1 : List Int × List (ByteArray × List Int × Unit) × Unit) (x2 : List ByteArray) (x3 : List Int) :
  LQ funcTab D n 45 [.r, .r, .r, .r, .l, .r, .l] n (spec_SkipAll_Q0 x0 x1 x2 x3) (CQ funcTab D n 45 [] [.r, .r, .r, .r, .l, .r, .l] (lastK funcTab 45)) = spec_SkipAll_LP0 D n x0 x1 x2 x3 := by
  rw [spec_SkipAll_EL0]
  simp only [spec_SkipAll_X0_0]
  rfl
theorem E_spec_SkipAll (D : Den ctx) (n : Nat) (a0 : List Int × List (ByteArray × List Int × Unit) × Unit) : rfC funcTab D n 45 (a0, ()) = F_spec_SkipAll D n a0 := by
  have h : rfC funcTab D n 45 (a0, ()) = spec_SkipAll_e D n (fun x0 x1 x2 x3 => LQ funcTab D n 45 [.r, .r, .r, .r, .l, .r, .l] n (spec_SkipAll_Q0 x0 x1 x2 x3) (CQ funcTab D n 45 [] [.r, .r, .r, .r, .l, .r, .l] (lastK funcTab 45))) a0 := by kernel_rfl
  rw [h]
  simp only [spec_SkipAll_ELP0]
  rfl
end Go.G

namespace Go.G
set_option maxRecDepth 100000
set_option maxHeartbeats 0
open Go Go.V
noncomputable def spec_SkipSeek_b0 (D : Den ctx) (n : Nat) (go : ByteArray → Int → Int → Int → List Int × List (ByteArray × List Int × Unit) × Unit → Option ((ByteArray × Int × Bool × Unit) × Unit)) (K0 : Int → Int → List Int × List (ByteArray × List Int × Unit) × Unit → Option ((ByteArray × Int × Bool × Unit) × Unit)) (x0 : ByteArray) (x1 : Int) (x2 : Int) (x3 : Int) (x4 : List Int × List (ByteArray × List Int × Unit) × Unit) : Option ((ByteArray × Int × Bool × Unit) × Unit) := br (decide (x3 ≥ 0)) (bindD (C_spec_l20Next D x4 x1 x3) fun b ↦ br (decide (Prod.fst (Prod.fst b) ≥ 0)) (br (decide (Prod.fst (Prod.fst b) ≥ 0)) (br (decide (0 ≤ Prod.fst (Prod.fst b)) && decide (Prod.fst (Prod.fst b) < (↑(List.length (Prod.fst (Prod.snd x4))) : Int))) (br (Op.bytesLess (ByteArray.toList (Prod.fst (List.getD (Prod.fst (Prod.snd x4)) (Int.toNat (Prod.fst (Prod.fst b))) (ByteArray.empty, [], ())))) (ByteArray.toList x0)) (go x0 (Prod.fst (Prod.fst b)) (IntKind.wrap IntKind.i64 (x2 + 1)) x3 x4) (go x0 x1 (IntKind.wrap IntKind.i64 (x2 + 1)) (IntKind.wrap IntKind.i64 (x3 - 1)) x4)) none) (go x0 x1 (IntKind.wrap IntKind.i64 (x2 + 1)) (IntKind.wrap IntKind.i64 (x3 - 1)) x4)) (br (decide (Prod.fst (Prod.fst b) ≥ 0)) (br (decide (0 ≤ Prod.fst (Prod.fst b)) && decide (Prod.fst (Prod.fst b) < (↑(List.length (Prod.fst (Prod.snd x4))) : Int))) (br (Op.bytesLess (ByteArray.toList (Prod.fst (List.getD (Prod.fst (Prod.snd x4)) (Int.toNat (Prod.fst (Prod.fst b))) (ByteArray.empty, [], ())))) (ByteArray.toList x0)) (go x0 (Prod.fst (Prod.fst b)) x2 x3 x4) (go x0 x1 x2 (IntKind.wrap IntKind.i64 (x3 - 1)) x4)) none) (go x0 x1 x2 (IntKind.wrap IntKind.i64 (x3 - 1)) x4))) (K0 x1 x2 x4)
noncomputable def spec_SkipSeek_L0 (D : Den ctx) (n : Nat) (K0 : Int → Int → List Int × List (ByteArray × List Int × Unit) × Unit → Option ((ByteArray × Int × Bool × Unit) × Unit)) : Nat → (ByteArray) → (Int) → (Int) → (Int) → (List Int × List (ByteArray × List Int × Unit) × Unit) → Option ((ByteArray × Int × Bool × Unit) × Unit) | 0 => (fun x0 x1 x2 x3 x4 => none) | m + 1 => (fun x0 x1 x2 x3 x4 => spec_SkipSeek_b0 D n (spec_SkipSeek_L0 D n K0 m) K0 x0 x1 x2 x3 x4)
noncomputable def spec_SkipSeek_x0_0 (D : Den ctx) (n : Nat) (v0_0 : Int) (v0_1 : Int) (v0_2 : List Int × List (ByteArray × List Int × Unit) × Unit) : Option ((ByteArray × Int × Bool × Unit) × Unit) := bindD (C_spec_l20Next D v0_2 v0_0 0) fun b ↦ br (decide (Prod.fst (Prod.fst b) < 0)) (some ((ByteArray.mk #[], v0_1, false, ()), ())) (br (decide (0 ≤ Prod.fst (Prod.fst b)) && decide (Prod.fst (Prod.fst b) < (↑(List.length (Prod.fst (Prod.snd v0_2))) : Int))) (some ((Prod.fst (List.getD (Prod.fst (Prod.snd v0_2)) (Int.toNat (Prod.fst (Prod.fst b))) (ByteArray.empty, [], ())), v0_1, true, ()), ())) none)
noncomputable def spec_SkipSeek_LP0 (D : Den ctx) (n : Nat) : (ByteArray) → (Int) → (Int) → (Int) → (List Int × List (ByteArray × List Int × Unit) × Unit) → Option ((ByteArray × Int × Bool × Unit) × Unit) := (fun x0 x1 x2 x3 x4 => spec_SkipSeek_L0 D n (fun v0_0 v0_1 v0_2 => spec_SkipSeek_x0_0 D n v0_0 v0_1 v0_2) n x0 x1 x2 x3 x4)
noncomputable def spec_SkipSeek_e (D : Den ctx) (n : Nat) (lp0 : ByteArray → Int → Int → Int → List Int × List (ByteArray × List Int × Unit) × Unit → Option ((ByteArray × Int × Bool × Unit) × Unit)) (a0 : List Int × List (ByteArray × List Int × Unit) × Unit) (a1 : ByteArray) : Option ((ByteArray × Int × Bool × Unit) × Unit) := bindD (C_spec_SkipOk D a0) fun b ↦ br (!Prod.fst (Prod.fst b)) (some ((ByteArray.mk #[], 0, false, ()), ())) (lp0 a1 (-1) 0 3 a0)
noncomputable def F_spec_SkipSeek (D : Den ctx) (n : Nat) (a0 : List Int × List (ByteArray × List Int × Unit) × Unit) (a1 : ByteArray) : Option ((ByteArray × Int × Bool × Unit) × Unit) := spec_SkipSeek_e D n (spec_SkipSeek_LP0 D n) a0 a1
def spec_SkipSeek_Q0 (x0 : ByteArray) (x1 : Int) (x2 : Int) (x3 : Int) (x4 : List Int × List (ByteArray × List Int × Unit) × Unit) : St := stq 53 [(1, AV.val Ty.str x0), (2, AV.addr 2 []), (7, AV.val (Ty.int IntKind.i64) x1), (8, AV.val (Ty.int IntKind.i64) x2), (9, AV.val (Ty.int IntKind.i64) x3)] [(2, Root.mk (Ty.pair (Ty.sl (Ty.int IntKind.i64)) (Ty.pair (Ty.sl (Ty.pair Ty.str (Ty.pair (Ty.sl (Ty.int IntKind.i64)) Ty.unit))) Ty.unit)) Mk.no x4 true)]
def spec_SkipSeek_Q0_0 (v0_0 : Int) (v0_1 : Int) (v0_2 : List Int × List (ByteArray × List Int × Unit) × Unit) : St := stq 53 [(2, AV.addr 2 []), (7, AV.val (Ty.int IntKind.i64) v0_0), (8, AV.val (Ty.int IntKind.i64) v0_1)] [(2, Root.mk (Ty.pair (Ty.sl (Ty.int IntKind.i64)) (Ty.pair (Ty.sl (Ty.pair Ty.str (Ty.pair (Ty.sl (Ty.int IntKind.i64)) Ty.unit))) Ty.unit)) Mk.no v0_2 true)]
theorem spec_SkipSeek_SB0 (D : Den ctx) (n : Nat) (m : Nat) (K : Ex → St → Option (Out ctx 46)) (x0 : ByteArray) (x1 : Int) (x2 : Int) (x3 : Int) (x4 : List Int × List (ByteArray × List Int × Unit) × Unit) :
  LQ funcTab D n 46 [.r, .r, .r, .r, .l, .r, .l] (m + 1) (spec_SkipSeek_Q0 x0 x1 x2 x3 x4) K = spec_SkipSeek_b0 D n (fun x0 x1 x2 x3 x4 => LQ funcTab D n 46 [.r, .r, .r, .r, .l, .r, .l] m (spec_SkipSeek_Q0 x0 x1 x2 x3 x4) K) (fun v0_0 v0_1 v0_2 => K (Ex.exit 0) (spec_SkipSeek_Q0_0 v0_0 v0_1 v0_2)) x0 x1 x2 x3 x4 := by kernel_rfl
theorem spec_SkipSeek_EL0 (D : Den ctx) (n : Nat) (K : Ex → St → Option (Out ctx 46)) : ∀ (m : Nat) (x0 : ByteArray) (x1 : Int) (x2 : Int) (x3 : Int) (x4 : List Int × List (ByteArray × List Int × Unit) × Unit), LQ funcTab D n 46 [.r, .r, .r, .r, .l, .r, .l] m (spec_SkipSeek_Q0 x0 x1 x2 x3 x4) K = spec_SkipSeek_L0 D n (fun v0_0 v0_1 v0_2 => K (Ex.exit 0) (spec_SkipSeek_Q0_0 v0_0 v0_1 v0_2)) m x0 x1 x2 x3 x4
  | 0, x0, x1, x2, x3, x4 => LQ_zero ..
  | m + 1, x0, x1, x2, x3, x4 => by
    have ih : (fun x0 x1 x2 x3 x4 => LQ funcTab D n 46 [.r, .r, .r, .r, .l, .r, .l] m (spec_SkipSeek_Q0 x0 x1 x2 x3 x4) K) = spec_SkipSeek_L0 D n (fun v0_0 v0_1 v0_2 => K (Ex.exit 0) (spec_SkipSeek_Q0_0 v0_0 v0_1 v0_2)) m := by funext x0 x1 x2 x3 x4; exact spec_SkipSeek_EL0 D n K m x0 x1 x2 x3 x4
    rw [spec_SkipSeek_SB0]
    rw [ih]; rfl
theorem spec_SkipSeek_X0_0 (D : Den ctx) (n : Nat) (v0_0 : Int) (v0_1 : Int) (v0_2 : List Int × List (ByteArray × List Int × Unit) × Unit) :
  (CQ funcTab D n 46 [] [.r, .r, .r, .r, .l, .r, .l] (lastK funcTab 46)) (Ex.exit 0) (spec_SkipSeek_Q0_0 v0_0 v0_1 v0_2) = spec_SkipSeek_x0_0 D n v0_0 v0_1 v0_2 := by kernel_rfl
theorem spec_SkipSeek_ELP0 (D : Den ctx) (n : Nat) (x0 : ByteArray) (x1 : Int) (x2 : Int) (x3 : Int) (x4 : List Int × List (ByteArray × List Int × Unit) × Unit) :
  LQ funcTab D n 46 [.r, .r, .r, .r, .l, .r, .l] n (spec_SkipSeek_Q0 x0 x1 x2 x3 x4) (CQ funcTab D n 46 [] [.r, .r, .r, .r, .l, .r, .l] (lastK funcTab 46)) = spec_SkipSeek_LP0 D n x0 x1 x2 x3 x4 := by
  rw [spec_SkipSeek_EL0]
  simp only [spec_SkipSeek_X0_0]
  rfl
theorem E_spec_SkipSeek (D : Den ctx) (n : Nat) (a0 : List Int × List (ByteArray × List Int × Unit) × Unit) (a1 : ByteArray) : rfC funcTab D n 46 (a0, (a1, ())) = F_spec_SkipSeek D n a0 a1 := by
  have h : rfC funcTab D n 46 (a0, (a1, ())) = spec_SkipSeek_e D n (fun x0 x1 x2 x3 x4 => LQ funcTab D n 46 [.r, .r, .r, .r, .l, .r, .l] n (spec_SkipSeek_Q0 x0 x1 x2 x3 x4) (CQ funcTab D n 46 [] [.r, .r, .r, .r, .l, .r, .l] (lastK funcTab 46))) a0 a1 := by kernel_rfl
  rw [h]
  simp only [spec_SkipSeek_ELP0]
  rfl
end Go.G

namespace Go.G
set_option maxRecDepth 100000
set_option maxHeartbeats 0
open Go Go.V
noncomputable def impl_SkipSeek_e (D : Den ctx) (n : Nat) (a0 : List Int × List (ByteArray × List Int × Unit) × Unit) (a1 : ByteArray) : Option ((ByteArray × Int × Bool × Unit) × Unit) := bindD (C_impl_SkipOk D a0) fun b ↦ br (!Prod.fst (Prod.fst b)) (some ((ByteArray.mk #[], 0, false, ()), ())) (bindD (C_impl_ahead D a0 a1) fun b ↦ br (decide (0 ≤ 0) && decide (0 < (↑(List.length (Prod.fst (Prod.fst b))) : Int))) (bindD (C_impl_Skip_after D a0 (List.getD (Prod.fst (Prod.fst b)) 0 0) 0) fun b_1 ↦ br (decide (Prod.fst (Prod.fst b_1) = -1)) (some ((ByteArray.mk #[], Prod.fst (Prod.snd (Prod.fst b)), false, ()), ())) (br (decide (0 ≤ Prod.fst (Prod.fst b_1)) && decide (Prod.fst (Prod.fst b_1) < (↑(List.length (Prod.fst (Prod.snd a0))) : Int))) (some ((Prod.fst (List.getD (Prod.fst (Prod.snd a0)) (Int.toNat (Prod.fst (Prod.fst b_1))) (ByteArray.empty, [], ())), Prod.fst (Prod.snd (Prod.fst b)), true, ()), ())) none)) none)
noncomputable def F_impl_SkipSeek (D : Den ctx) (n : Nat) (a0 : List Int × List (ByteArray × List Int × Unit) × Unit) (a1 : ByteArray) : Option ((ByteArray × Int × Bool × Unit) × Unit) := impl_SkipSeek_e D n a0 a1
theorem E_impl_SkipSeek (D : Den ctx) (n : Nat) (a0 : List Int × List (ByteArray × List Int × Unit) × Unit) (a1 : ByteArray) : rfC funcTab D n 47 (a0, (a1, ())) = F_impl_SkipSeek D n a0 a1 := by kernel_rfl
end Go.G

namespace Go.G
set_option maxRecDepth 100000
set_option maxHeartbeats 0
open Go Go.V
noncomputable def laws_eqStringS_b0 (D : Den ctx) (n : Nat) (go : List ByteArray → List ByteArray → Int → Option ((Bool × Unit) × Unit)) (K0 : Bool → Option ((Bool × Unit) × Unit)) (K1 : Option ((Bool × Unit) × Unit)) (x0 : List ByteArray) (x1 : List ByteArray) (x2 : Int) : Option ((Bool × Unit) × Unit) := br (decide (x2 < (↑(List.length x0) : Int))) (br (decide (0 ≤ x2) && decide (x2 < (↑(List.length x0) : Int))) (br (decide (0 ≤ x2) && decide (x2 < (↑(List.length x1) : Int))) (br (!List.beq (ByteArray.toList (List.getD x0 (Int.toNat x2) ByteArray.empty)) (ByteArray.toList (List.getD x1 (Int.toNat x2) ByteArray.empty))) (K0 false) (go x0 x1 (IntKind.wrap IntKind.i64 (x2 + 1)))) none) none) K1
noncomputable def laws_eqStringS_L0 (D : Den ctx) (n : Nat) (K0 : Bool → Option ((Bool × Unit) × Unit)) (K1 : Option ((Bool × Unit) × Unit)) : Nat → (List ByteArray) → (List ByteArray) → (Int) → Option ((Bool × Unit) × Unit) | 0 => (fun x0 x1 x2 => none) | m + 1 => (fun x0 x1 x2 => laws_eqStringS_b0 D n (laws_eqStringS_L0 D n K0 K1 m) K0 K1 x0 x1 x2)
noncomputable def laws_eqStringS_x0_0 (D : Den ctx) (n : Nat) (v0_0 : Bool) : Option ((Bool × Unit) × Unit) := some ((v0_0, ()), ())
noncomputable def laws_eqStringS_x0_1 (D : Den ctx) (n : Nat) : Option ((Bool × Unit) × Unit) := some ((true, ()), ())
noncomputable def laws_eqStringS_LP0 (D : Den ctx) (n : Nat) : (List ByteArray) → (List ByteArray) → (Int) → Option ((Bool × Unit) × Unit) := (fun x0 x1 x2 => laws_eqStringS_L0 D n (fun v0_0 => laws_eqStringS_x0_0 D n v0_0) (laws_eqStringS_x0_1 D n) n x0 x1 x2)
noncomputable def laws_eqStringS_e (D : Den ctx) (n : Nat) (lp0 : List ByteArray → List ByteArray → Int → Option ((Bool × Unit) × Unit)) (a0 : List ByteArray) (a1 : List ByteArray) : Option ((Bool × Unit) × Unit) := br ((↑(List.length a0) : Int) != (↑(List.length a1) : Int)) (some ((false, ()), ())) (lp0 a0 a1 0)
noncomputable def F_laws_eqStringS (D : Den ctx) (n : Nat) (a0 : List ByteArray) (a1 : List ByteArray) : Option ((Bool × Unit) × Unit) := laws_eqStringS_e D n (laws_eqStringS_LP0 D n) a0 a1
def laws_eqStringS_Q0 (x0 : List ByteArray) (x1 : List ByteArray) (x2 : Int) : St := stq 26 [(0, AV.val (Ty.sl Ty.str) x0), (1, AV.val (Ty.sl Ty.str) x1), (5, AV.val (Ty.int IntKind.i64) x2)] []
def laws_eqStringS_Q0_0 (v0_0 : Bool) : St := stq 26 [(4, AV.val Ty.bool v0_0)] []
def laws_eqStringS_Q0_1 : St := stq 26 [] []
theorem laws_eqStringS_SB0 (D : Den ctx) (n : Nat) (m : Nat) (K : Ex → St → Option (Out ctx 48)) (x0 : List ByteArray) (x1 : List ByteArray) (x2 : Int) :
  LQ funcTab D n 48 [.r, .r, .l, .r, .l] (m + 1) (laws_eqStringS_Q0 x0 x1 x2) K = laws_eqStringS_b0 D n (fun x0 x1 x2 => LQ funcTab D n 48 [.r, .r, .l, .r, .l] m (laws_eqStringS_Q0 x0 x1 x2) K) (fun v0_0 => K (Ex.ret) (laws_eqStringS_Q0_0 v0_0)) (K (Ex.exit 0) (laws_eqStringS_Q0_1)) x0 x1 x2 := by kernel_rfl
theorem laws_eqStringS_EL0 (D : Den ctx) (n : Nat) (K : Ex → St → Option (Out ctx 48)) : ∀ (m : Nat) (x0 : List ByteArray) (x1 : List ByteArray) (x2 : Int), LQ funcTab D n 48 [.r, .r, .l, .r, .l] m (laws_eqStringS_Q0 x0 x1 x2) K = laws_eqStringS_L0 D n (fun v0_0 => K (Ex.ret) (laws_eqStringS_Q0_0 v0_0)) (K (Ex.exit 0) (laws_eqStringS_Q0_1)) m x0 x1 x2
  | 0, x0, x1, x2 => LQ_zero ..
  | m + 1, x0, x1, x2 => by
    have ih : (fun x0 x1 x2 => LQ funcTab D n 48 [.r, .r, .l, .r, .l] m (laws_eqStringS_Q0 x0 x1 x2) K) = laws_eqStringS_L0 D n (fun v0_0 => K (Ex.ret) (laws_eqStringS_Q0_0 v0_0)) (K (Ex.exit 0) (laws_eqStringS_Q0_1)) m := by funext x0 x1 x2; exact laws_eqStringS_EL0 D n K m x0 x1 x2
    rw [laws_eqStringS_SB0]
    rw [ih]; rfl
theorem laws_eqStringS_X0_0 (D : Den ctx) (n : Nat) (v0_0 : Bool) :
  (CQ funcTab D n 48 [] [.r, .r, .l, .r, .l] (lastK funcTab 48)) (Ex.ret) (laws_eqStringS_Q0_0 v0_0) = laws_eqStringS_x0_0 D n v0_0 := by kernel_rfl
theorem laws_eqStringS_X0_1 (D : Den ctx) (n : Nat) :
  (CQ funcTab D n 48 [] [.r, .r, .l, .r, .l] (lastK funcTab 48)) (Ex.exit 0) (laws_eqStringS_Q0_1) = laws_eqStringS_x0_1 D n := by kernel_rfl
theorem laws_eqStringS_ELP0 (D : Den ctx) (n : Nat) (x0 : List ByteArray) (x1 : List ByteArray) (x2 : Int) :
  LQ funcTab D n 48 [.r, .r, .l, .r, .l] n (laws_eqStringS_Q0 x0 x1 x2) (CQ funcTab D n 48 [] [.r, .r, .l, .r, .l] (lastK funcTab 48)) = laws_eqStringS_LP0 D n x0 x1 x2 := by
  rw [laws_eqStringS_EL0]
  simp only [laws_eqStringS_X0_0, laws_eqStringS_X0_1]
  rfl
theorem E_laws_eqStringS (D : Den ctx) (n : Nat) (a0 : List ByteArray) (a1 : List ByteArray) : rfC funcTab D n 48 (a0, (a1, ())) = F_laws_eqStringS D n a0 a1 := by
  have h : rfC funcTab D n 48 (a0, (a1, ())) = laws_eqStringS_e D n (fun x0 x1 x2 => LQ funcTab D n 48 [.r, .r, .l, .r, .l] n (laws_eqStringS_Q0 x0 x1 x2) (CQ funcTab D n 48 [] [.r, .r, .l, .r, .l] (lastK funcTab 48))) a0 a1 := by kernel_rfl
  rw [h]
  simp only [laws_eqStringS_ELP0]
  rfl
end Go.G

namespace Go.G
set_option maxRecDepth 100000
set_option maxHeartbeats 0
open Go Go.V
noncomputable def laws_markStringS_b0 (D : Den ctx) (n : Nat) (go : Int → Int → List ByteArray → Option ((Int × Unit) × List ByteArray × Unit)) (K0 : Int → List ByteArray → Option ((Int × Unit) × List ByteArray × Unit)) (x0 : Int) (x1 : Int) (x2 : List ByteArray) : Option ((Int × Unit) × List ByteArray × Unit) := br (decide (x1 < (↑(List.length x2) : Int))) (bindD (C_laws_markText D x0) fun b ↦ br (decide (0 ≤ x1) && decide (x1 < (↑(List.length x2) : Int))) (go (IntKind.wrap IntKind.i64 (x0 + 1)) (IntKind.wrap IntKind.i64 (x1 + 1)) (List.set x2 (Int.toNat x1) (Prod.fst (Prod.fst b)))) none) (K0 x0 x2)
noncomputable def laws_markStringS_L0 (D : Den ctx) (n : Nat) (K0 : Int → List ByteArray → Option ((Int × Unit) × List ByteArray × Unit)) : Nat → (Int) → (Int) → (List ByteArray) → Option ((Int × Unit) × List ByteArray × Unit) | 0 => (fun x0 x1 x2 => none) | m + 1 => (fun x0 x1 x2 => laws_markStringS_b0 D n (laws_markStringS_L0 D n K0 m) K0 x0 x1 x2)
noncomputable def laws_markStringS_x0_0 (D : Den ctx) (n : Nat) (v0_0 : Int) (v0_1 : List ByteArray) : Option ((Int × Unit) × List ByteArray × Unit) := some ((v0_0, ()), v0_1, ())
noncomputable def laws_markStringS_LP0 (D : Den ctx) (n : Nat) : (Int) → (Int) → (List ByteArray) → Option ((Int × Unit) × List ByteArray × Unit) := (fun x0 x1 x2 => laws_markStringS_L0 D n (fun v0_0 v0_1 => laws_markStringS_x0_0 D n v0_0 v0_1) n x0 x1 x2)
noncomputable def laws_markStringS_e (D : Den ctx) (n : Nat) (lp0 : Int → Int → List ByteArray → Option ((Int × Unit) × List ByteArray × Unit)) (a0 : List ByteArray) (a1 : Int) : Option ((Int × Unit) × List ByteArray × Unit) := lp0 a1 0 a0
noncomputable def F_laws_markStringS (D : Den ctx) (n : Nat) (a0 : List ByteArray) (a1 : Int) : Option ((Int × Unit) × List ByteArray × Unit) := laws_markStringS_e D n (laws_markStringS_LP0 D n) a0 a1
def laws_markStringS_Q0 (x0 : Int) (x1 : Int) (x2 : List ByteArray) : St := stq 20 [(0, AV.brw 0 [] 1048576), (1, AV.val (Ty.int IntKind.i64) x0), (5, AV.val (Ty.int IntKind.i64) x1)] [(0, Root.mk (Ty.sl Ty.str) (Mk.own 1048576 Mk.no) x2 false)]
def laws_markStringS_Q0_0 (v0_0 : Int) (v0_1 : List ByteArray) : St := stq 20 [(0, AV.brw 0 [] 1048576), (1, AV.val (Ty.int IntKind.i64) v0_0)] [(0, Root.mk (Ty.sl Ty.str) (Mk.own 1048576 Mk.no) v0_1 false)]
theorem laws_markStringS_SB0 (D : Den ctx) (n : Nat) (m : Nat) (K : Ex → St → Option (Out ctx 49)) (x0 : Int) (x1 : Int) (x2 : List ByteArray) :
  LQ funcTab D n 49 [.r, .l, .r, .l] (m + 1) (laws_markStringS_Q0 x0 x1 x2) K = laws_markStringS_b0 D n (fun x0 x1 x2 => LQ funcTab D n 49 [.r, .l, .r, .l] m (laws_markStringS_Q0 x0 x1 x2) K) (fun v0_0 v0_1 => K (Ex.exit 0) (laws_markStringS_Q0_0 v0_0 v0_1)) x0 x1 x2 := by kernel_rfl
theorem laws_markStringS_EL0 (D : Den ctx) (n : Nat) (K : Ex → St → Option (Out ctx 49)) : ∀ (m : Nat) (x0 : Int) (x1 : Int) (x2 : List ByteArray), LQ funcTab D n 49 [.r, .l, .r, .l] m (laws_markStringS_Q0 x0 x1 x2) K = laws_markStringS_L0 D n (fun v0_0 v0_1 => K (Ex.exit 0) (laws_markStringS_Q0_0 v0_0 v0_1)) m x0 x1 x2
  | 0, x0, x1, x2 => LQ_zero ..
  | m + 1, x0, x1, x2 => by
    have ih : (fun x0 x1 x2 => LQ funcTab D n 49 [.r, .l, .r, .l] m (laws_markStringS_Q0 x0 x1 x2) K) = laws_markStringS_L0 D n (fun v0_0 v0_1 => K (Ex.exit 0) (laws_markStringS_Q0_0 v0_0 v0_1)) m := by funext x0 x1 x2; exact laws_markStringS_EL0 D n K m x0 x1 x2
    rw [laws_markStringS_SB0]
    rw [ih]; rfl
theorem laws_markStringS_X0_0 (D : Den ctx) (n : Nat) (v0_0 : Int) (v0_1 : List ByteArray) :
  (CQ funcTab D n 49 [] [.r, .l, .r, .l] (lastK funcTab 49)) (Ex.exit 0) (laws_markStringS_Q0_0 v0_0 v0_1) = laws_markStringS_x0_0 D n v0_0 v0_1 := by kernel_rfl
theorem laws_markStringS_ELP0 (D : Den ctx) (n : Nat) (x0 : Int) (x1 : Int) (x2 : List ByteArray) :
  LQ funcTab D n 49 [.r, .l, .r, .l] n (laws_markStringS_Q0 x0 x1 x2) (CQ funcTab D n 49 [] [.r, .l, .r, .l] (lastK funcTab 49)) = laws_markStringS_LP0 D n x0 x1 x2 := by
  rw [laws_markStringS_EL0]
  simp only [laws_markStringS_X0_0]
  rfl
theorem E_laws_markStringS (D : Den ctx) (n : Nat) (a0 : List ByteArray) (a1 : Int) : rfC funcTab D n 49 (a0, (a1, ())) = F_laws_markStringS D n a0 a1 := by
  have h : rfC funcTab D n 49 (a0, (a1, ())) = laws_markStringS_e D n (fun x0 x1 x2 => LQ funcTab D n 49 [.r, .l, .r, .l] n (laws_markStringS_Q0 x0 x1 x2) (CQ funcTab D n 49 [] [.r, .l, .r, .l] (lastK funcTab 49))) a0 a1 := by kernel_rfl
  rw [h]
  simp only [laws_markStringS_ELP0]
  rfl
end Go.G

namespace Go.G
set_option maxRecDepth 100000
set_option maxHeartbeats 0
open Go Go.V
noncomputable def laws_heldStringS_b0 (D : Den ctx) (n : Nat) (go : List ByteArray → Int → Int → Option ((Int × Unit) × Unit)) (K0 : Int → Int → Option ((Int × Unit) × Unit)) (K1 : Int → Option ((Int × Unit) × Unit)) (x0 : List ByteArray) (x1 : Int) (x2 : Int) : Option ((Int × Unit) × Unit) := br (decide (x2 < (↑(List.length x0) : Int))) (br (decide (0 ≤ x2) && decide (x2 < (↑(List.length x0) : Int))) (bindD (C_laws_markText D x1) fun b ↦ br (!List.beq (ByteArray.toList (List.getD x0 (Int.toNat x2) ByteArray.empty)) (ByteArray.toList (Prod.fst (Prod.fst b)))) (K0 x1 (-1)) (go x0 (IntKind.wrap IntKind.i64 (x1 + 1)) (IntKind.wrap IntKind.i64 (x2 + 1)))) none) (K1 x1)
noncomputable def laws_heldStringS_L0 (D : Den ctx) (n : Nat) (K0 : Int → Int → Option ((Int × Unit) × Unit)) (K1 : Int → Option ((Int × Unit) × Unit)) : Nat → (List ByteArray) → (Int) → (Int) → Option ((Int × Unit) × Unit) | 0 => (fun x0 x1 x2 => none) | m + 1 => (fun x0 x1 x2 => laws_heldStringS_b0 D n (laws_heldStringS_L0 D n K0 K1 m) K0 K1 x0 x1 x2)
noncomputable def laws_heldStringS_x0_0 (D : Den ctx) (n : Nat) (v0_0 : Int) (v0_1 : Int) : Option ((Int × Unit) × Unit) := some ((v0_1, ()), ())
noncomputable def laws_heldStringS_x0_1 (D : Den ctx) (n : Nat) (v1_0 : Int) : Option ((Int × Unit) × Unit) := some ((v1_0, ()), ())
noncomputable def laws_heldStringS_LP0 (D : Den ctx) (n : Nat) : (List ByteArray) → (Int) → (Int) → Option ((Int × Unit) × Unit) := (fun x0 x1 x2 => laws_heldStringS_L0 D n (fun v0_0 v0_1 => laws_heldStringS_x0_0 D n v0_0 v0_1) (fun v1_0 => laws_heldStringS_x0_1 D n v1_0) n x0 x1 x2)
noncomputable def laws_heldStringS_e (D : Den ctx) (n : Nat) (lp0 : List ByteArray → Int → Int → Option ((Int × Unit) × Unit)) (a0 : List ByteArray) (a1 : Int) : Option ((Int × Unit) × Unit) := lp0 a0 a1 0
noncomputable def F_laws_heldStringS (D : Den ctx) (n : Nat) (a0 : List ByteArray) (a1 : Int) : Option ((Int × Unit) × Unit) := laws_heldStringS_e D n (laws_heldStringS_LP0 D n) a0 a1
def laws_heldStringS_Q0 (x0 : List ByteArray) (x1 : Int) (x2 : Int) : St := stq 22 [(0, AV.val (Ty.sl Ty.str) x0), (1, AV.val (Ty.int IntKind.i64) x1), (5, AV.val (Ty.int IntKind.i64) x2)] []
def laws_heldStringS_Q0_0 (v0_0 : Int) (v0_1 : Int) : St := stq 22 [(1, AV.val (Ty.int IntKind.i64) v0_0), (4, AV.val (Ty.int IntKind.i64) v0_1)] []
def laws_heldStringS_Q0_1 (v1_0 : Int) : St := stq 22 [(1, AV.val (Ty.int IntKind.i64) v1_0)] []
theorem laws_heldStringS_SB0 (D : Den ctx) (n : Nat) (m : Nat) (K : Ex → St → Option (Out ctx 50)) (x0 : List ByteArray) (x1 : Int) (x2 : Int) :
  LQ funcTab D n 50 [.r, .l, .r, .l] (m + 1) (laws_heldStringS_Q0 x0 x1 x2) K = laws_heldStringS_b0 D n (fun x0 x1 x2 => LQ funcTab D n 50 [.r, .l, .r, .l] m (laws_heldStringS_Q0 x0 x1 x2) K) (fun v0_0 v0_1 => K (Ex.ret) (laws_heldStringS_Q0_0 v0_0 v0_1)) (fun v1_0 => K (Ex.exit 0) (laws_heldStringS_Q0_1 v1_0)) x0 x1 x2 := by kernel_rfl
theorem laws_heldStringS_EL0 (D : Den ctx) (n : Nat) (K : Ex → St → Option (Out ctx 50)) : ∀ (m : Nat) (x0 : List ByteArray) (x1 : Int) (x2 : Int), LQ funcTab D n 50 [.r, .l, .r, .l] m (laws_heldStringS_Q0 x0 x1 x2) K = laws_heldStringS_L0 D n (fun v0_0 v0_1 => K (Ex.ret) (laws_heldStringS_Q0_0 v0_0 v0_1)) (fun v1_0 => K (Ex.exit 0) (laws_heldStringS_Q0_1 v1_0)) m x0 x1 x2
  | 0, x0, x1, x2 => LQ_zero ..
  | m + 1, x0, x1, x2 => by
    have ih : (fun x0 x1 x2 => LQ funcTab D n 50 [.r, .l, .r, .l] m (laws_heldStringS_Q0 x0 x1 x2) K) = laws_heldStringS_L0 D n (fun v0_0 v0_1 => K (Ex.ret) (laws_heldStringS_Q0_0 v0_0 v0_1)) (fun v1_0 => K (Ex.exit 0) (laws_heldStringS_Q0_1 v1_0)) m := by funext x0 x1 x2; exact laws_heldStringS_EL0 D n K m x0 x1 x2
    rw [laws_heldStringS_SB0]
    rw [ih]; rfl
theorem laws_heldStringS_X0_0 (D : Den ctx) (n : Nat) (v0_0 : Int) (v0_1 : Int) :
  (CQ funcTab D n 50 [] [.r, .l, .r, .l] (lastK funcTab 50)) (Ex.ret) (laws_heldStringS_Q0_0 v0_0 v0_1) = laws_heldStringS_x0_0 D n v0_0 v0_1 := by kernel_rfl
theorem laws_heldStringS_X0_1 (D : Den ctx) (n : Nat) (v1_0 : Int) :
  (CQ funcTab D n 50 [] [.r, .l, .r, .l] (lastK funcTab 50)) (Ex.exit 0) (laws_heldStringS_Q0_1 v1_0) = laws_heldStringS_x0_1 D n v1_0 := by kernel_rfl
theorem laws_heldStringS_ELP0 (D : Den ctx) (n : Nat) (x0 : List ByteArray) (x1 : Int) (x2 : Int) :
  LQ funcTab D n 50 [.r, .l, .r, .l] n (laws_heldStringS_Q0 x0 x1 x2) (CQ funcTab D n 50 [] [.r, .l, .r, .l] (lastK funcTab 50)) = laws_heldStringS_LP0 D n x0 x1 x2 := by
  rw [laws_heldStringS_EL0]
  simp only [laws_heldStringS_X0_0, laws_heldStringS_X0_1]
  rfl
theorem E_laws_heldStringS (D : Den ctx) (n : Nat) (a0 : List ByteArray) (a1 : Int) : rfC funcTab D n 50 (a0, (a1, ())) = F_laws_heldStringS D n a0 a1 := by
  have h : rfC funcTab D n 50 (a0, (a1, ())) = laws_heldStringS_e D n (fun x0 x1 x2 => LQ funcTab D n 50 [.r, .l, .r, .l] n (laws_heldStringS_Q0 x0 x1 x2) (CQ funcTab D n 50 [] [.r, .l, .r, .l] (lastK funcTab 50))) a0 a1 := by kernel_rfl
  rw [h]
  simp only [laws_heldStringS_ELP0]
  rfl
end Go.G

namespace Go.G
set_option maxRecDepth 100000
set_option maxHeartbeats 0
open Go Go.V
noncomputable def spec_DrawSkipSeek_e (D : Den ctx) (n : Nat) (a0 : List Int) : Option (((List Int × List (ByteArray × List Int × Unit) × Unit) × ByteArray × Unit) × Unit) := bindD (C_spec_l1New D a0) fun b ↦ bindD (C_spec_l20Draw D (Prod.fst (Prod.fst b))) fun b ↦ bindD (C_spec_l20DrawKey D (Prod.fst (Prod.snd b))) fun b_1 ↦ some (((Prod.fst (Prod.fst (Prod.fst b)), Prod.fst (Prod.snd (Prod.fst (Prod.fst b))), ()), Prod.fst (Prod.fst b_1), ()), ())
noncomputable def F_spec_DrawSkipSeek (D : Den ctx) (n : Nat) (a0 : List Int) : Option (((List Int × List (ByteArray × List Int × Unit) × Unit) × ByteArray × Unit) × Unit) := spec_DrawSkipSeek_e D n a0
theorem E_spec_DrawSkipSeek (D : Den ctx) (n : Nat) (a0 : List Int) : rfC funcTab D n 51 (a0, ()) = F_spec_DrawSkipSeek D n a0 := by kernel_rfl
end Go.G

namespace Go.G
set_option maxRecDepth 100000
set_option maxHeartbeats 0
open Go Go.V
noncomputable def spec_SkipPut_b0 (D : Den ctx) (n : Nat) (go : ByteArray → Int → Int → List Int × List (ByteArray × List Int × Unit) × Unit → List Int × List (ByteArray × List Int × Unit) × Unit → List Int × List (ByteArray × List Int × Unit) × Unit → List Int × List (ByteArray × List Int × Unit) × Unit → Option (((List Int × List (ByteArray × List Int × Unit) × Unit) × Bool × Unit) × Unit)) (K0 : List Int × List (ByteArray × List Int × Unit) × Unit → List Int × List (ByteArray × List Int × Unit) × Unit → List Int × List (ByteArray × List Int × Unit) × Unit → Option (((List Int × List (ByteArray × List Int × Unit) × Unit) × Bool × Unit) × Unit)) (x0 : ByteArray) (x1 : Int) (x2 : Int) (x3 : List Int × List (ByteArray × List Int × Unit) × Unit) (x4 : List Int × List (ByteArray × List Int × Unit) × Unit) (x5 : List Int × List (ByteArray × List Int × Unit) × Unit) (x6 : List Int × List (ByteArray × List Int × Unit) × Unit) : Option (((List Int × List (ByteArray × List Int × Unit) × Unit) × Bool × Unit) × Unit) := bindD (C_spec_HeightOf D x0) fun b ↦ br (decide (x2 < Prod.fst (Prod.fst b))) (bindD (C_spec_l20Before D x3 x2 x0) fun b ↦ bindD (C_spec_l20Next D (Prod.fst x6, Prod.fst (Prod.snd x6), ()) (Prod.fst (Prod.fst b)) x2) fun b_1 ↦ bindD (C_spec_l20Set D (Prod.fst x6, Prod.fst (Prod.snd x6), ()) x1 x2 (Prod.fst (Prod.fst b_1))) fun b_2 ↦ bindD (C_spec_l20Set D (Prod.fst (Prod.fst (Prod.snd b_2)), Prod.fst (Prod.snd (Prod.fst (Prod.snd b_2))), ()) (Prod.fst (Prod.fst b)) x2 x1) fun b ↦ go x0 x1 (IntKind.wrap IntKind.i64 (x2 + 1)) x3 x4 x5 (Prod.fst (Prod.fst (Prod.snd b)), Prod.fst (Prod.snd (Prod.fst (Prod.snd b))), Prod.snd (Prod.snd x6))) (K0 x4 x5 x6)
noncomputable def spec_SkipPut_L0 (D : Den ctx) (n : Nat) (K0 : List Int × List (ByteArray × List Int × Unit) × Unit → List Int × List (ByteArray × List Int × Unit) × Unit → List Int × List (ByteArray × List Int × Unit) × Unit → Option (((List Int × List (ByteArray × List Int × Unit) × Unit) × Bool × Unit) × Unit)) : Nat → (ByteArray) → (Int) → (Int) → (List Int × List (ByteArray × List Int × Unit) × Unit) → (List Int × List (ByteArray × List Int × Unit) × Unit) → (List Int × List (ByteArray × List Int × Unit) × Unit) → (List Int × List (ByteArray × List Int × Unit) × Unit) → Option (((List Int × List (ByteArray × List Int × Unit) × Unit) × Bool × Unit) × Unit) | 0 => (fun x0 x1 x2 x3 x4 x5 x6 => none) | m + 1 => (fun x0 x1 x2 x3 x4 x5 x6 => spec_SkipPut_b0 D n (spec_SkipPut_L0 D n K0 m) K0 x0 x1 x2 x3 x4 x5 x6)
noncomputable def spec_SkipPut_x0_0 (D : Den ctx) (n : Nat) (v0_0 : List Int × List (ByteArray × List Int × Unit) × Unit) (v0_1 : List Int × List (ByteArray × List Int × Unit) × Unit) (v0_2 : List Int × List (ByteArray × List Int × Unit) × Unit) : Option (((List Int × List (ByteArray × List Int × Unit) × Unit) × Bool × Unit) × Unit) := bindD (C_spec_SkipOk D (Prod.fst v0_2, Prod.fst (Prod.snd v0_2), ())) fun b ↦ br (!Prod.fst (Prod.fst b)) (some (((Prod.fst v0_1, Prod.fst (Prod.snd v0_1), ()), false, ()), ())) (some (((Prod.fst v0_2, Prod.fst (Prod.snd v0_2), ()), true, ()), ()))
noncomputable def spec_SkipPut_LP0 (D : Den ctx) (n : Nat) : (ByteArray) → (Int) → (Int) → (List Int × List (ByteArray × List Int × Unit) × Unit) → (List Int × List (ByteArray × List Int × Unit) × Unit) → (List Int × List (ByteArray × List Int × Unit) × Unit) → (List Int × List (ByteArray × List Int × Unit) × Unit) → Option (((List Int × List (ByteArray × List Int × Unit) × Unit) × Bool × Unit) × Unit) := (fun x0 x1 x2 x3 x4 x5 x6 => spec_SkipPut_L0 D n (fun v0_0 v0_1 v0_2 => spec_SkipPut_x0_0 D n v0_0 v0_1 v0_2) n x0 x1 x2 x3 x4 x5 x6)
noncomputable def spec_SkipPut_e (D : Den ctx) (n : Nat) (lp0 : ByteArray → Int → Int → List Int × List (ByteArray × List Int × Unit) × Unit → List Int × List (ByteArray × List Int × Unit) × Unit → List Int × List (ByteArray × List Int × Unit) × Unit → List Int × List (ByteArray × List Int × Unit) × Unit → Option (((List Int × List (ByteArray × List Int × Unit) × Unit) × Bool × Unit) × Unit)) (a0 : List Int × List (ByteArray × List Int × Unit) × Unit) (a1 : ByteArray) : Option (((List Int × List (ByteArray × List Int × Unit) × Unit) × Bool × Unit) × Unit) := bindD (C_spec_l20Copy D a0) fun b ↦ bindD (C_spec_SkipOk D a0) fun b_1 ↦ br (!Prod.fst (Prod.fst b_1)) (some (((Prod.fst (Prod.fst (Prod.fst b)), Prod.fst (Prod.snd (Prod.fst (Prod.fst b))), ()), false, ()), ())) (bindD (C_spec_l20Has D a0 a1) fun b_2 ↦ br (bif decide (Prod.fst (Prod.fst b_2) ≥ 0) then true else decide ((↑(ByteArray.size a1) : Int) > 40)) (some (((Prod.fst (Prod.fst (Prod.fst b)), Prod.fst (Prod.snd (Prod.fst (Prod.fst b))), ()), false, ()), ())) (bindD (C_spec_l20Copy D a0) fun b_3 ↦ bindD (C_spec_HeightOf D a1) fun b_4 ↦ br (decide (0 ≤ Prod.fst (Prod.fst b_4)) && decide (Prod.fst (Prod.fst b_4) ≤ Prod.fst (Prod.fst b_4)) && decide (Prod.fst (Prod.fst b_4) ≤ (↑bound : Int))) (br (decide (List.length (Prod.fst (Prod.snd (Prod.fst (Prod.fst b_3)))) + 1 ≤ bound)) (lp0 a1 (↑(List.length (Prod.fst (Prod.snd (Prod.fst (Prod.fst b_3))))) : Int) 0 a0 ([], [], ()) (Prod.fst (Prod.fst (Prod.fst b)), Prod.fst (Prod.snd (Prod.fst (Prod.fst b))), ()) (Prod.fst (Prod.fst (Prod.fst b_3)), Prod.fst (Prod.snd (Prod.fst (Prod.fst b_3))) ++ [(a1, List.replicate (Int.toNat (Prod.fst (Prod.fst b_4))) 0, ())], ())) none) none))
noncomputable def F_spec_SkipPut (D : Den ctx) (n : Nat) (a0 : List Int × List (ByteArray × List Int × Unit) × Unit) (a1 : ByteArray) : Option (((List Int × List (ByteArray × List Int × Unit) × Unit) × Bool × Unit) × Unit) := spec_SkipPut_e D n (spec_SkipPut_LP0 D n) a0 a1
def spec_SkipPut_Q0 (x0 : ByteArray) (x1 : Int) (x2 : Int) (x3 : List Int × List (ByteArray × List Int × Unit) × Unit) (x4 : List Int × List (ByteArray × List Int × Unit) × Unit) (x5 : List Int × List (ByteArray × List Int × Unit) × Unit) (x6 : List Int × List (ByteArray × List Int × Unit) × Unit) : St := stq 71 [(1, AV.val Ty.str x0), (2, AV.addr 2 []), (4, AV.addr 4 []), (6, AV.addr 6 []), (7, AV.addr 7 []), (8, AV.val (Ty.int IntKind.i64) x1), (9, AV.val (Ty.int IntKind.i64) x2)] [(2, Root.mk (Ty.pair (Ty.sl (Ty.int IntKind.i64)) (Ty.pair (Ty.sl (Ty.pair Ty.str (Ty.pair (Ty.sl (Ty.int IntKind.i64)) Ty.unit))) Ty.unit)) Mk.no x3 true), (4, Root.mk (Ty.pair (Ty.sl (Ty.int IntKind.i64)) (Ty.pair (Ty.sl (Ty.pair Ty.str (Ty.pair (Ty.sl (Ty.int IntKind.i64)) Ty.unit))) Ty.unit)) (Mk.pr (Mk.own 0 Mk.no) (Mk.pr (Mk.own 0 (Mk.pr Mk.no (Mk.pr (Mk.own 0 Mk.no) Mk.no))) Mk.no)) x4 true), (6, Root.mk (Ty.pair (Ty.sl (Ty.int IntKind.i64)) (Ty.pair (Ty.sl (Ty.pair Ty.str (Ty.pair (Ty.sl (Ty.int IntKind.i64)) Ty.unit))) Ty.unit)) (Mk.pr (Mk.own 0 Mk.no) (Mk.pr (Mk.own 0 (Mk.pr Mk.no (Mk.pr (Mk.own 0 Mk.no) Mk.no))) Mk.no)) x5 true), (7, Root.mk (Ty.pair (Ty.sl (Ty.int IntKind.i64)) (Ty.pair (Ty.sl (Ty.pair Ty.str (Ty.pair (Ty.sl (Ty.int IntKind.i64)) Ty.unit))) Ty.unit)) (Mk.pr (Mk.own 0 Mk.no) (Mk.pr (Mk.own 0 (Mk.pr Mk.no (Mk.pr (Mk.own 0 Mk.no) Mk.no))) Mk.no)) x6 true)]
def spec_SkipPut_Q0_0 (v0_0 : List Int × List (ByteArray × List Int × Unit) × Unit) (v0_1 : List Int × List (ByteArray × List Int × Unit) × Unit) (v0_2 : List Int × List (ByteArray × List Int × Unit) × Unit) : St := stq 71 [(4, AV.addr 4 []), (6, AV.addr 6 []), (7, AV.addr 7 [])] [(4, Root.mk (Ty.pair (Ty.sl (Ty.int IntKind.i64)) (Ty.pair (Ty.sl (Ty.pair Ty.str (Ty.pair (Ty.sl (Ty.int IntKind.i64)) Ty.unit))) Ty.unit)) (Mk.pr (Mk.own 0 Mk.no) (Mk.pr (Mk.own 0 (Mk.pr Mk.no (Mk.pr (Mk.own 0 Mk.no) Mk.no))) Mk.no)) v0_0 true), (6, Root.mk (Ty.pair (Ty.sl (Ty.int IntKind.i64)) (Ty.pair (Ty.sl (Ty.pair Ty.str (Ty.pair (Ty.sl (Ty.int IntKind.i64)) Ty.unit))) Ty.unit)) (Mk.pr (Mk.own 0 Mk.no) (Mk.pr (Mk.own 0 (Mk.pr Mk.no (Mk.pr (Mk.own 0 Mk.no) Mk.no))) Mk.no)) v0_1 true), (7, Root.mk (Ty.pair (Ty.sl (Ty.int IntKind.i64)) (Ty.pair (Ty.sl (Ty.pair Ty.str (Ty.pair (Ty.sl (Ty.int IntKind.i64)) Ty.unit))) Ty.unit)) (Mk.pr (Mk.own 0 Mk.no) (Mk.pr (Mk.own 0 (Mk.pr Mk.no (Mk.pr (Mk.own 0 Mk.no) Mk.no))) Mk.no)) v0_2 true)]
theorem spec_SkipPut_SB0 (D : Den ctx) (n : Nat) (m : Nat) (K : Ex → St → Option (Out ctx 53)) (x0 : ByteArray) (x1 : Int) (x2 : Int) (x3 : List Int × List (ByteArray × List Int × Unit) × Unit) (x4 : List Int × List (ByteArray × List Int × Unit) × Unit) (x5 : List Int × List (ByteArray × List Int × Unit) × Unit) (x6 : List Int × List (ByteArray × List Int × Unit) × Unit) :
  LQ funcTab D n 53 [.r, .r, .r, .r, .r, .r, .l, .r, .l] (m + 1) (spec_SkipPut_Q0 x0 x1 x2 x3 x4 x5 x6) K = spec_SkipPut_b0 D n (fun x0 x1 x2 x3 x4 x5 x6 => LQ funcTab D n 53 [.r, .r, .r, .r, .r, .r, .l, .r, .l] m (spec_SkipPut_Q0 x0 x1 x2 x3 x4 x5 x6) K) (fun v0_0 v0_1 v0_2 => K (Ex.exit 0) (spec_SkipPut_Q0_0 v0_0 v0_1 v0_2)) x0 x1 x2 x3 x4 x5 x6 := by kernel_rfl
theorem spec_SkipPut_EL0 (D : Den ctx) (n : Nat) (K : Ex → St → Option (Out ctx 53)) : ∀ (m : Nat) (x0 : ByteArray) (x1 : Int) (x2 : Int) (x3 : List Int × List (ByteArray × List Int × Unit) × Unit) (x4 : List Int × List (ByteArray × List Int × Unit) × Unit) (x5 : List Int × List (ByteArray × List Int × Unit) × Unit) (x6 : List Int × List (ByteArray × List Int × Unit) × Unit), LQ funcTab D n 53 [.r, .r, .r, .r, .r, .r, .l, .r, .l] m (spec_SkipPut_Q0 x0 x1 x2 x3 x4 x5 x6) K = spec_SkipPut_L0 D n (fun v0_0 v0_1 v0_2 => K (Ex.exit 0) (spec_SkipPut_Q0_0 v0_0 v0_1 v0_2)) m x0 x1 x2 x3 x4 x5 x6
  | 0, x0, x1, x2, x3, x4, x5, x6 => LQ_zero ..
  | m + 1, x0, x1, x2, x3, x4, x5, x6 => by
    have ih : (fun x0 x1 x2 x3 x4 x5 x6 => LQ funcTab D n 53 [.r, .r, .r, .r, .r, .r, .l, .r, .l] m (spec_SkipPut_Q0 x0 x1 x2 x3 x4 x5 x6) K) = spec_SkipPut_L0 D n (fun v0_0 v0_1 v0_2 => K (Ex.exit 0) (spec_SkipPut_Q0_0 v0_0 v0_1 v0_2)) m := by funext x0 x1 x2 x3 x4 x5 x6; exact spec_SkipPut_EL0 D n K m x0 x1 x2 x3 x4 x5 x6
    rw [spec_SkipPut_SB0]
    rw [ih]; rfl
theorem spec_SkipPut_X0_0 (D : Den ctx) (n : Nat) (v0_0 : List Int × List (ByteArray × List Int × Unit) × Unit) (v0_1 : List Int × List (ByteArray × List Int × Unit) × Unit) (v0_2 : List Int × List (ByteArray × List Int × Unit) × Unit) :
  (CQ funcTab D n 53 [] [.r, .r, .r, .r, .r, .r, .l, .r, .l] (lastK funcTab 53)) (Ex.exit 0) (spec_SkipPut_Q0_0 v0_0 v0_1 v0_2) = spec_SkipPut_x0_0 D n v0_0 v0_1 v0_2 := by kernel_rfl
theorem spec_SkipPut_ELP0 (D : Den ctx) (n : Nat) (x0 : ByteArray) (x1 : Int) (x2 : Int) (x3 : List Int × List (ByteArray × List Int × Unit) × Unit) (x4 : List Int × List (ByteArray × List Int × Unit) × Unit) (x5 : List Int × List (ByteArray × List Int × Unit) × Unit) (x6 : List Int × List (ByteArray × List Int × Unit) × Unit) :
  LQ funcTab D n 53 [.r, .r, .r, .r, .r, .r, .l, .r, .l] n (spec_SkipPut_Q0 x0 x1 x2 x3 x4 x5 x6) (CQ funcTab D n 53 [] [.r, .r, .r, .r, .r, .r, .l, .r, .l] (lastK funcTab 53)) = spec_SkipPut_LP0 D n x0 x1 x2 x3 x4 x5 x6 := by
  rw [spec_SkipPut_EL0]
  simp only [spec_SkipPut_X0_0]
  rfl
theorem E_spec_SkipPut (D : Den ctx) (n : Nat) (a0 : List Int × List (ByteArray × List Int × Unit) × Unit) (a1 : ByteArray) : rfC funcTab D n 53 (a0, (a1, ())) = F_spec_SkipPut D n a0 a1 := by
  have h : rfC funcTab D n 53 (a0, (a1, ())) = spec_SkipPut_e D n (fun x0 x1 x2 x3 x4 x5 x6 => LQ funcTab D n 53 [.r, .r, .r, .r, .r, .r, .l, .r, .l] n (spec_SkipPut_Q0 x0 x1 x2 x3 x4 x5 x6) (CQ funcTab D n 53 [] [.r, .r, .r, .r, .r, .r, .l, .r, .l] (lastK funcTab 53))) a0 a1 := by kernel_rfl
  rw [h]
  simp only [spec_SkipPut_ELP0]
  rfl
end Go.G

namespace Go.G
set_option maxRecDepth 100000
set_option maxHeartbeats 0
open Go Go.V
noncomputable def spec_SkipDel_b0 (D : Den ctx) (n : Nat) (go : ByteArray → Int → Int → List Int × List (ByteArray × List Int × Unit) × Unit → List Int × List (ByteArray × List Int × Unit) × Unit → List Int × List (ByteArray × List Int × Unit) × Unit → Option (((List Int × List (ByteArray × List Int × Unit) × Unit) × Bool × Unit) × Unit)) (K0 : Int → List Int × List (ByteArray × List Int × Unit) × Unit → List Int × List (ByteArray × List Int × Unit) × Unit → Option (((List Int × List (ByteArray × List Int × Unit) × Unit) × Bool × Unit) × Unit)) (x0 : ByteArray) (x1 : Int) (x2 : Int) (x3 : List Int × List (ByteArray × List Int × Unit) × Unit) (x4 : List Int × List (ByteArray × List Int × Unit) × Unit) (x5 : List Int × List (ByteArray × List Int × Unit) × Unit) : Option (((List Int × List (ByteArray × List Int × Unit) × Unit) × Bool × Unit) × Unit) := bindD (C_spec_HeightOf D x0) fun b ↦ br (decide (x2 < Prod.fst (Prod.fst b))) (bindD (C_spec_l20Before D x3 x2 x0) fun b ↦ br (decide (0 ≤ x1) && decide (x1 < (↑(List.length (Prod.fst (Prod.snd x3))) : Int))) (br (decide (0 ≤ x2) && decide (x2 < (↑(List.length (Prod.fst (Prod.snd (List.getD (Prod.fst (Prod.snd x3)) (Int.toNat x1) (ByteArray.empty, [], ()))))) : Int))) (bindD (C_spec_l20Set D (Prod.fst x5, Prod.fst (Prod.snd x5), ()) (Prod.fst (Prod.fst b)) x2 (List.getD (Prod.fst (Prod.snd (List.getD (Prod.fst (Prod.snd x3)) (Int.toNat x1) (ByteArray.empty, [], ())))) (Int.toNat x2) 0)) fun b ↦ go x0 x1 (IntKind.wrap IntKind.i64 (x2 + 1)) x3 x4 (Prod.fst (Prod.fst (Prod.snd b)), Prod.fst (Prod.snd (Prod.fst (Prod.snd b))), Prod.snd (Prod.snd x5))) none) none) (K0 x1 x4 x5)
noncomputable def spec_SkipDel_L0 (D : Den ctx) (n : Nat) (K0 : Int → List Int × List (ByteArray × List Int × Unit) × Unit → List Int × List (ByteArray × List Int × Unit) × Unit → Option (((List Int × List (ByteArray × List Int × Unit) × Unit) × Bool × Unit) × Unit)) : Nat → (ByteArray) → (Int) → (Int) → (List Int × List (ByteArray × List Int × Unit) × Unit) → (List Int × List (ByteArray × List Int × Unit) × Unit) → (List Int × List (ByteArray × List Int × Unit) × Unit) → Option (((List Int × List (ByteArray × List Int × Unit) × Unit) × Bool × Unit) × Unit) | 0 => (fun x0 x1 x2 x3 x4 x5 => none) | m + 1 => (fun x0 x1 x2 x3 x4 x5 => spec_SkipDel_b0 D n (spec_SkipDel_L0 D n K0 m) K0 x0 x1 x2 x3 x4 x5)
noncomputable def spec_SkipDel_x0_0 (D : Den ctx) (n : Nat) (v0_0 : Int) (v0_1 : List Int × List (ByteArray × List Int × Unit) × Unit) (v0_2 : List Int × List (ByteArray × List Int × Unit) × Unit) : Option (((List Int × List (ByteArray × List Int × Unit) × Unit) × Bool × Unit) × Unit) := br (decide (0 ≤ v0_0) && decide (v0_0 < (↑(List.length (Prod.fst (Prod.snd v0_2))) : Int))) (some (((Prod.fst v0_2, List.set (Prod.fst (Prod.snd v0_2)) (Int.toNat v0_0) (Prod.fst (List.getD (Prod.fst (Prod.snd v0_2)) (Int.toNat v0_0) (ByteArray.empty, [], ())), [], Prod.snd (Prod.snd (List.getD (Prod.fst (Prod.snd v0_2)) (Int.toNat v0_0) (ByteArray.empty, [], ())))), ()), true, ()), ())) none
noncomputable def spec_SkipDel_LP0 (D : Den ctx) (n : Nat) : (ByteArray) → (Int) → (Int) → (List Int × List (ByteArray × List Int × Unit) × Unit) → (List Int × List (ByteArray × List Int × Unit) × Unit) → (List Int × List (ByteArray × List Int × Unit) × Unit) → Option (((List Int × List (ByteArray × List Int × Unit) × Unit) × Bool × Unit) × Unit) := (fun x0 x1 x2 x3 x4 x5 => spec_SkipDel_L0 D n (fun v0_0 v0_1 v0_2 => spec_SkipDel_x0_0 D n v0_0 v0_1 v0_2) n x0 x1 x2 x3 x4 x5)
noncomputable def spec_SkipDel_e (D : Den ctx) (n : Nat) (lp0 : ByteArray → Int → Int → List Int × List (ByteArray × List Int × Unit) × Unit → List Int × List (ByteArray × List Int × Unit) × Unit → List Int × List (ByteArray × List Int × Unit) × Unit → Option (((List Int × List (ByteArray × List Int × Unit) × Unit) × Bool × Unit) × Unit)) (a0 : List Int × List (ByteArray × List Int × Unit) × Unit) (a1 : ByteArray) : Option (((List Int × List (ByteArray × List Int × Unit) × Unit) × Bool × Unit) × Unit) := bindD (C_spec_SkipOk D a0) fun b ↦ br (!Prod.fst (Prod.fst b)) (bindD (C_spec_l20Copy D a0) fun b ↦ some (((Prod.fst (Prod.fst (Prod.fst b)), Prod.fst (Prod.snd (Prod.fst (Prod.fst b))), ()), false, ()), ())) (bindD (C_spec_l20Has D a0 a1) fun b ↦ br (decide (Prod.fst (Prod.fst b) < 0)) (bindD (C_spec_l20Copy D a0) fun b ↦ some (((Prod.fst (Prod.fst (Prod.fst b)), Prod.fst (Prod.snd (Prod.fst (Prod.fst b))), ()), false, ()), ())) (bindD (C_spec_l20Copy D a0) fun b ↦ bindD (C_spec_l20Has D a0 a1) fun b_1 ↦ lp0 a1 (Prod.fst (Prod.fst b_1)) 0 a0 ([], [], ()) (Prod.fst (Prod.fst (Prod.fst b)), Prod.fst (Prod.snd (Prod.fst (Prod.fst b))), ())))
noncomputable def F_spec_SkipDel (D : Den ctx) (n : Nat) (a0 : List Int × List (ByteArray × List Int × Unit) × Unit) (a1 : ByteArray) : Option (((List Int × List (ByteArray × List Int × Unit) × Unit) × Bool × Unit) × Unit) := spec_SkipDel_e D n (spec_SkipDel_LP0 D n) a0 a1
def spec_SkipDel_Q0 (x0 : ByteArray) (x1 : Int) (x2 : Int) (x3 : List Int × List (ByteArray × List Int × Unit) × Unit) (x4 : List Int × List (ByteArray × List Int × Unit) × Unit) (x5 : List Int × List (ByteArray × List Int × Unit) × Unit) : St := stq 54 [(1, AV.val Ty.str x0), (2, AV.addr 2 []), (4, AV.addr 4 []), (6, AV.addr 6 []), (7, AV.val (Ty.int IntKind.i64) x1), (8, AV.val (Ty.int IntKind.i64) x2)] [(2, Root.mk (Ty.pair (Ty.sl (Ty.int IntKind.i64)) (Ty.pair (Ty.sl (Ty.pair Ty.str (Ty.pair (Ty.sl (Ty.int IntKind.i64)) Ty.unit))) Ty.unit)) Mk.no x3 true), (4, Root.mk (Ty.pair (Ty.sl (Ty.int IntKind.i64)) (Ty.pair (Ty.sl (Ty.pair Ty.str (Ty.pair (Ty.sl (Ty.int IntKind.i64)) Ty.unit))) Ty.unit)) (Mk.pr (Mk.own 0 Mk.no) (Mk.pr (Mk.own 0 (Mk.pr Mk.no (Mk.pr (Mk.own 0 Mk.no) Mk.no))) Mk.no)) x4 true), (6, Root.mk (Ty.pair (Ty.sl (Ty.int IntKind.i64)) (Ty.pair (Ty.sl (Ty.pair Ty.str (Ty.pair (Ty.sl (Ty.int IntKind.i64)) Ty.unit))) Ty.unit)) (Mk.pr (Mk.own 0 Mk.no) (Mk.pr (Mk.own 0 (Mk.pr Mk.no (Mk.pr (Mk.own 0 Mk.no) Mk.no))) Mk.no)) x5 true)]
def spec_SkipDel_Q0_0 (v0_0 : Int) (v0_1 : List Int × List (ByteArray × List Int × Unit) × Unit) (v0_2 : List Int × List (ByteArray × List Int × Unit) × Unit) : St := stq 54 [(4, AV.addr 4 []), (6, AV.addr 6 []), (7, AV.val (Ty.int IntKind.i64) v0_0)] [(4, Root.mk (Ty.pair (Ty.sl (Ty.int IntKind.i64)) (Ty.pair (Ty.sl (Ty.pair Ty.str (Ty.pair (Ty.sl (Ty.int IntKind.i64)) Ty.unit))) Ty.unit)) (Mk.pr (Mk.own 0 Mk.no) (Mk.pr (Mk.own 0 (Mk.pr Mk.no (Mk.pr (Mk.own 0 Mk.no) Mk.no))) Mk.no)) v0_1 true), (6, Root.mk (Ty.pair (Ty.sl (Ty.int IntKind.i64)) (Ty.pair (Ty.sl (Ty.pair Ty.str (Ty.pair (Ty.sl (Ty.int IntKind.i64)) Ty.unit))) Ty.unit)) (Mk.pr (Mk.own 0 Mk.no) (Mk.pr (Mk.own 0 (Mk.pr Mk.no (Mk.pr (Mk.own 0 Mk.no) Mk.no))) Mk.no)) v0_2 true)]
theorem spec_SkipDel_SB0 (D : Den ctx) (n : Nat) (m : Nat) (K : Ex → St → Option (Out ctx 56)) (x0 : ByteArray) (x1 : Int) (x2 : Int) (x3 : List Int × List (ByteArray × List Int × Unit) × Unit) (x4 : List Int × List (ByteArray × List Int × Unit) × Unit) (x5 : List Int × List (ByteArray × List Int × Unit) × Unit) :
  LQ funcTab D n 56 [.r, .r, .r, .r, .l, .r, .l] (m + 1) (spec_SkipDel_Q0 x0 x1 x2 x3 x4 x5) K = spec_SkipDel_b0 D n (fun x0 x1 x2 x3 x4 x5 => LQ funcTab D n 56 [.r, .r, .r, .r, .l, .r, .l] m (spec_SkipDel_Q0 x0 x1 x2 x3 x4 x5) K) (fun v0_0 v0_1 v0_2 => K (Ex.exit 0) (spec_SkipDel_Q0_0 v0_0 v0_1 v0_2)) x0 x1 x2 x3 x4 x5 := by kernel_rfl
theorem spec_SkipDel_EL0 (D : Den ctx) (n : Nat) (K : Ex → St → Option (Out ctx 56)) : ∀ (m : Nat) (x0 : ByteArray) (x1 : Int) (x2 : Int) (x3 : List Int × List (ByteArray × List Int × Unit) × Unit) (x4 : List Int × List (ByteArray × List Int × Unit) × Unit) (x5 : List Int × List (ByteArray × List Int × Unit) × Unit), LQ funcTab D n 56 [.r, .r, .r, .r, .l, .r, .l] m (spec_SkipDel_Q0 x0 x1 x2 x3 x4 x5) K = spec_SkipDel_L0 D n (fun v0_0 v0_1 v0_2 => K (Ex.exit 0) (spec_SkipDel_Q0_0 v0_0 v0_1 v0_2)) m x0 x1 x2 x3 x4 x5
  | 0, x0, x1, x2, x3, x4, x5 => LQ_zero ..
  | m + 1, x0, x1, x2, x3, x4, x5 => by
    have ih : (fun x0 x1 x2 x3 x4 x5 => LQ funcTab D n 56 [.r, .r, .r, .r, .l, .r, .l] m (spec_SkipDel_Q0 x0 x1 x2 x3 x4 x5) K) = spec_SkipDel_L0 D n (fun v0_0 v0_1 v0_2 => K (Ex.exit 0) (spec_SkipDel_Q0_0 v0_0 v0_1 v0_2)) m := by funext x0 x1 x2 x3 x4 x5; exact spec_SkipDel_EL0 D n K m x0 x1 x2 x3 x4 x5
    rw [spec_SkipDel_SB0]
    rw [ih]; rfl
theorem spec_SkipDel_X0_0 (D : Den ctx) (n : Nat) (v0_0 : Int) (v0_1 : List Int × List (ByteArray × List Int × Unit) × Unit) (v0_2 : List Int × List (ByteArray × List Int × Unit) × Unit) :
  (CQ funcTab D n 56 [] [.r, .r, .r, .r, .l, .r, .l] (lastK funcTab 56)) (Ex.exit 0) (spec_SkipDel_Q0_0 v0_0 v0_1 v0_2) = spec_SkipDel_x0_0 D n v0_0 v0_1 v0_2 := by kernel_rfl
theorem spec_SkipDel_ELP0 (D : Den ctx) (n : Nat) (x0 : ByteArray) (x1 : Int) (x2 : Int) (x3 : List Int × List (ByteArray × List Int × Unit) × Unit) (x4 : List Int × List (ByteArray × List Int × Unit) × Unit) (x5 : List Int × List (ByteArray × List Int × Unit) × Unit) :
  LQ funcTab D n 56 [.r, .r, .r, .r, .l, .r, .l] n (spec_SkipDel_Q0 x0 x1 x2 x3 x4 x5) (CQ funcTab D n 56 [] [.r, .r, .r, .r, .l, .r, .l] (lastK funcTab 56)) = spec_SkipDel_LP0 D n x0 x1 x2 x3 x4 x5 := by
  rw [spec_SkipDel_EL0]
  simp only [spec_SkipDel_X0_0]
  rfl
theorem E_spec_SkipDel (D : Den ctx) (n : Nat) (a0 : List Int × List (ByteArray × List Int × Unit) × Unit) (a1 : ByteArray) : rfC funcTab D n 56 (a0, (a1, ())) = F_spec_SkipDel D n a0 a1 := by
  have h : rfC funcTab D n 56 (a0, (a1, ())) = spec_SkipDel_e D n (fun x0 x1 x2 x3 x4 x5 => LQ funcTab D n 56 [.r, .r, .r, .r, .l, .r, .l] n (spec_SkipDel_Q0 x0 x1 x2 x3 x4 x5) (CQ funcTab D n 56 [] [.r, .r, .r, .r, .l, .r, .l] (lastK funcTab 56))) a0 a1 := by kernel_rfl
  rw [h]
  simp only [spec_SkipDel_ELP0]
  rfl
end Go.G

namespace Go.G
set_option maxRecDepth 100000
set_option maxHeartbeats 0
open Go Go.V
noncomputable def laws_eqIntS_b0 (D : Den ctx) (n : Nat) (go : List Int → List Int → Int → Option ((Bool × Unit) × Unit)) (K0 : Bool → Option ((Bool × Unit) × Unit)) (K1 : Option ((Bool × Unit) × Unit)) (x0 : List Int) (x1 : List Int) (x2 : Int) : Option ((Bool × Unit) × Unit) := br (decide (x2 < (↑(List.length x0) : Int))) (br (decide (0 ≤ x2) && decide (x2 < (↑(List.length x0) : Int))) (br (decide (0 ≤ x2) && decide (x2 < (↑(List.length x1) : Int))) (br (List.getD x0 (Int.toNat x2) 0 != List.getD x1 (Int.toNat x2) 0) (K0 false) (go x0 x1 (IntKind.wrap IntKind.i64 (x2 + 1)))) none) none) K1
noncomputable def laws_eqIntS_L0 (D : Den ctx) (n : Nat) (K0 : Bool → Option ((Bool × Unit) × Unit)) (K1 : Option ((Bool × Unit) × Unit)) : Nat → (List Int) → (List Int) → (Int) → Option ((Bool × Unit) × Unit) | 0 => (fun x0 x1 x2 => none) | m + 1 => (fun x0 x1 x2 => laws_eqIntS_b0 D n (laws_eqIntS_L0 D n K0 K1 m) K0 K1 x0 x1 x2)
noncomputable def laws_eqIntS_x0_0 (D : Den ctx) (n : Nat) (v0_0 : Bool) : Option ((Bool × Unit) × Unit) := some ((v0_0, ()), ())
noncomputable def laws_eqIntS_x0_1 (D : Den ctx) (n : Nat) : Option ((Bool × Unit) × Unit) := some ((true, ()), ())
noncomputable def laws_eqIntS_LP0 (D : Den ctx) (n : Nat) : (List Int) → (List Int) → (Int) → Option ((Bool × Unit) × Unit) := (fun x0 x1 x2 => laws_eqIntS_L0 D n (fun v0_0 => laws_eqIntS_x0_0 D n v0_0) (laws_eqIntS_x0_1 D n) n x0 x1 x2)
noncomputable def laws_eqIntS_e (D : Den ctx) (n : Nat) (lp0 : List Int → List Int → Int → Option ((Bool × Unit) × Unit)) (a0 : List Int) (a1 : List Int) : Option ((Bool × Unit) × Unit) := br ((↑(List.length a0) : Int) != (↑(List.length a1) : Int)) (some ((false, ()), ())) (lp0 a0 a1 0)
noncomputable def F_laws_eqIntS (D : Den ctx) (n : Nat) (a0 : List Int) (a1 : List Int) : Option ((Bool × Unit) × Unit) := laws_eqIntS_e D n (laws_eqIntS_LP0 D n) a0 a1
def laws_eqIntS_Q0 (x0 : List Int) (x1 : List Int) (x2 : Int) : St := stq 26 [(0, AV.val (Ty.sl (Ty.int IntKind.i64)) x0), (1, AV.val (Ty.sl (Ty.int IntKind.i64)) x1), (5, AV.val (Ty.int IntKind.i64) x2)] []
def laws_eqIntS_Q0_0 (v0_0 : Bool) : St := stq 26 [(4, AV.val Ty.bool v0_0)] []
def laws_eqIntS_Q0_1 : St := stq 26 [] []
theorem laws_eqIntS_SB0 (D : Den ctx) (n : Nat) (m : Nat) (K : Ex → St → Option (Out ctx 60)) (x0 : List Int) (x1 : List Int) (x2 : Int) :
  LQ funcTab D n 60 [.r, .r, .l, .r, .l] (m + 1) (laws_eqIntS_Q0 x0 x1 x2) K = laws_eqIntS_b0 D n (fun x0 x1 x2 => LQ funcTab D n 60 [.r, .r, .l, .r, .l] m (laws_eqIntS_Q0 x0 x1 x2) K) (fun v0_0 => K (Ex.ret) (laws_eqIntS_Q0_0 v0_0)) (K (Ex.exit 0) (laws_eqIntS_Q0_1)) x0 x1 x2 := by kernel_rfl
theorem laws_eqIntS_EL0 (D : Den ctx) (n : Nat) (K : Ex → St → Option (Out ctx 60)) : ∀ (m : Nat) (x0 : List Int) (x1 : List Int) (x2 : Int), LQ funcTab D n 60 [.r, .r, .l, .r, .l] m (laws_eqIntS_Q0 x0 x1 x2) K = laws_eqIntS_L0 D n (fun v0_0 => K (Ex.ret) (laws_eqIntS_Q0_0 v0_0)) (K (Ex.exit 0) (laws_eqIntS_Q0_1)) m x0 x1 x2
  | 0, x0, x1, x2 => LQ_zero ..
  | m + 1, x0, x1, x2 => by
    have ih : (fun x0 x1 x2 => LQ funcTab D n 60 [.r, .r, .l, .r, .l] m (laws_eqIntS_Q0 x0 x1 x2) K) = laws_eqIntS_L0 D n (fun v0_0 => K (Ex.ret) (laws_eqIntS_Q0_0 v0_0)) (K (Ex.exit 0) (laws_eqIntS_Q0_1)) m := by funext x0 x1 x2; exact laws_eqIntS_EL0 D n K m x0 x1 x2
    rw [laws_eqIntS_SB0]
    rw [ih]; rfl
theorem laws_eqIntS_X0_0 (D : Den ctx) (n : Nat) (v0_0 : Bool) :
  (CQ funcTab D n 60 [] [.r, .r, .l, .r, .l] (lastK funcTab 60)) (Ex.ret) (laws_eqIntS_Q0_0 v0_0) = laws_eqIntS_x0_0 D n v0_0 := by kernel_rfl
theorem laws_eqIntS_X0_1 (D : Den ctx) (n : Nat) :
  (CQ funcTab D n 60 [] [.r, .r, .l, .r, .l] (lastK funcTab 60)) (Ex.exit 0) (laws_eqIntS_Q0_1) = laws_eqIntS_x0_1 D n := by kernel_rfl
theorem laws_eqIntS_ELP0 (D : Den ctx) (n : Nat) (x0 : List Int) (x1 : List Int) (x2 : Int) :
  LQ funcTab D n 60 [.r, .r, .l, .r, .l] n (laws_eqIntS_Q0 x0 x1 x2) (CQ funcTab D n 60 [] [.r, .r, .l, .r, .l] (lastK funcTab 60)) = laws_eqIntS_LP0 D n x0 x1 x2 := by
  rw [laws_eqIntS_EL0]
  simp only [laws_eqIntS_X0_0, laws_eqIntS_X0_1]
  rfl
theorem E_laws_eqIntS (D : Den ctx) (n : Nat) (a0 : List Int) (a1 : List Int) : rfC funcTab D n 60 (a0, (a1, ())) = F_laws_eqIntS D n a0 a1 := by
  have h : rfC funcTab D n 60 (a0, (a1, ())) = laws_eqIntS_e D n (fun x0 x1 x2 => LQ funcTab D n 60 [.r, .r, .l, .r, .l] n (laws_eqIntS_Q0 x0 x1 x2) (CQ funcTab D n 60 [] [.r, .r, .l, .r, .l] (lastK funcTab 60))) a0 a1 := by kernel_rfl
  rw [h]
  simp only [laws_eqIntS_ELP0]
  rfl
end Go.G

namespace Go.G
set_option maxRecDepth 100000
set_option maxHeartbeats 0
open Go Go.V
noncomputable def laws_eqLaneS_b0 (D : Den ctx) (n : Nat) (go : List (ByteArray × List Int × Unit) → List (ByteArray × List Int × Unit) → Int → Option ((Bool × Unit) × Unit)) (K0 : Bool → Option ((Bool × Unit) × Unit)) (K1 : Option ((Bool × Unit) × Unit)) (x0 : List (ByteArray × List Int × Unit)) (x1 : List (ByteArray × List Int × Unit)) (x2 : Int) : Option ((Bool × Unit) × Unit) := br (decide (x2 < (↑(List.length x0) : Int))) (br (decide (0 ≤ x2) && decide (x2 < (↑(List.length x0) : Int))) (br (decide (0 ≤ x2) && decide (x2 < (↑(List.length x1) : Int))) (bindD (C_laws_eqLane D (List.getD x0 (Int.toNat x2) (ByteArray.empty, [], ())) (List.getD x1 (Int.toNat x2) (ByteArray.empty, [], ()))) fun b ↦ br (!Prod.fst (Prod.fst b)) (K0 false) (go x0 x1 (IntKind.wrap IntKind.i64 (x2 + 1)))) none) none) K1
noncomputable def laws_eqLaneS_L0 (D : Den ctx) (n : Nat) (K0 : Bool → Option ((Bool × Unit) × Unit)) (K1 : Option ((Bool × Unit) × Unit)) : Nat → (List (ByteArray × List Int × Unit)) → (List (ByteArray × List Int × Unit)) → (Int) → Option ((Bool × Unit) × Unit) | 0 => (fun x0 x1 x2 => none) | m + 1 => (fun x0 x1 x2 => laws_eqLaneS_b0 D n (laws_eqLaneS_L0 D n K0 K1 m) K0 K1 x0 x1 x2)
noncomputable def laws_eqLaneS_x0_0 (D : Den ctx) (n : Nat) (v0_0 : Bool) : Option ((Bool × Unit) × Unit) := some ((v0_0, ()), ())
noncomputable def laws_eqLaneS_x0_1 (D : Den ctx) (n : Nat) : Option ((Bool × Unit) × Unit) := some ((true, ()), ())
noncomputable def laws_eqLaneS_LP0 (D : Den ctx) (n : Nat) : (List (ByteArray × List Int × Unit)) → (List (ByteArray × List Int × Unit)) → (Int) → Option ((Bool × Unit) × Unit) := (fun x0 x1 x2 => laws_eqLaneS_L0 D n (fun v0_0 => laws_eqLaneS_x0_0 D n v0_0) (laws_eqLaneS_x0_1 D n) n x0 x1 x2)
noncomputable def laws_eqLaneS_e (D : Den ctx) (n : Nat) (lp0 : List (ByteArray × List Int × Unit) → List (ByteArray × List Int × Unit) → Int → Option ((Bool × Unit) × Unit)) (a0 : List (ByteArray × List Int × Unit)) (a1 : List (ByteArray × List Int × Unit)) : Option ((Bool × Unit) × Unit) := br ((↑(List.length a0) : Int) != (↑(List.length a1) : Int)) (some ((false, ()), ())) (lp0 a0 a1 0)
noncomputable def F_laws_eqLaneS (D : Den ctx) (n : Nat) (a0 : List (ByteArray × List Int × Unit)) (a1 : List (ByteArray × List Int × Unit)) : Option ((Bool × Unit) × Unit) := laws_eqLaneS_e D n (laws_eqLaneS_LP0 D n) a0 a1
def laws_eqLaneS_Q0 (x0 : List (ByteArray × List Int × Unit)) (x1 : List (ByteArray × List Int × Unit)) (x2 : Int) : St := stq 27 [(0, AV.val (Ty.sl (Ty.pair Ty.str (Ty.pair (Ty.sl (Ty.int IntKind.i64)) Ty.unit))) x0), (1, AV.val (Ty.sl (Ty.pair Ty.str (Ty.pair (Ty.sl (Ty.int IntKind.i64)) Ty.unit))) x1), (5, AV.val (Ty.int IntKind.i64) x2)] []
def laws_eqLaneS_Q0_0 (v0_0 : Bool) : St := stq 27 [(4, AV.val Ty.bool v0_0)] []
def laws_eqLaneS_Q0_1 : St := stq 27 [] []
theorem laws_eqLaneS_SB0 (D : Den ctx) (n : Nat) (m : Nat) (K : Ex → St → Option (Out ctx 61)) (x0 : List (ByteArray × List Int × Unit)) (x1 : List (ByteArray × List Int × Unit)) (x2 : Int) :
  LQ funcTab D n 61 [.r, .r, .l, .r, .l] (m + 1) (laws_eqLaneS_Q0 x0 x1 x2) K = laws_eqLaneS_b0 D n (fun x0 x1 x2 => LQ funcTab D n 61 [.r, .r, .l, .r, .l] m (laws_eqLaneS_Q0 x0 x1 x2) K) (fun v0_0 => K (Ex.ret) (laws_eqLaneS_Q0_0 v0_0)) (K (Ex.exit 0) (laws_eqLaneS_Q0_1)) x0 x1 x2 := by kernel_rfl
theorem laws_eqLaneS_EL0 (D : Den ctx) (n : Nat) (K : Ex → St → Option (Out ctx 61)) : ∀ (m : Nat) (x0 : List (ByteArray × List Int × Unit)) (x1 : List (ByteArray × List Int × Unit)) (x2 : Int), LQ funcTab D n 61 [.r, .r, .l, .r, .l] m (laws_eqLaneS_Q0 x0 x1 x2) K = laws_eqLaneS_L0 D n (fun v0_0 => K (Ex.ret) (laws_eqLaneS_Q0_0 v0_0)) (K (Ex.exit 0) (laws_eqLaneS_Q0_1)) m x0 x1 x2
  | 0, x0, x1, x2 => LQ_zero ..
  | m + 1, x0, x1, x2 => by
    have ih : (fun x0 x1 x2 => LQ funcTab D n 61 [.r, .r, .l, .r, .l] m (laws_eqLaneS_Q0 x0 x1 x2) K) = laws_eqLaneS_L0 D n (fun v0_0 => K (Ex.ret) (laws_eqLaneS_Q0_0 v0_0)) (K (Ex.exit 0) (laws_eqLaneS_Q0_1)) m := by funext x0 x1 x2; exact laws_eqLaneS_EL0 D n K m x0 x1 x2
    rw [laws_eqLaneS_SB0]
    rw [ih]; rfl
theorem laws_eqLaneS_X0_0 (D : Den ctx) (n : Nat) (v0_0 : Bool) :
  (CQ funcTab D n 61 [] [.r, .r, .l, .r, .l] (lastK funcTab 61)) (Ex.ret) (laws_eqLaneS_Q0_0 v0_0) = laws_eqLaneS_x0_0 D n v0_0 := by kernel_rfl
theorem laws_eqLaneS_X0_1 (D : Den ctx) (n : Nat) :
  (CQ funcTab D n 61 [] [.r, .r, .l, .r, .l] (lastK funcTab 61)) (Ex.exit 0) (laws_eqLaneS_Q0_1) = laws_eqLaneS_x0_1 D n := by kernel_rfl
theorem laws_eqLaneS_ELP0 (D : Den ctx) (n : Nat) (x0 : List (ByteArray × List Int × Unit)) (x1 : List (ByteArray × List Int × Unit)) (x2 : Int) :
  LQ funcTab D n 61 [.r, .r, .l, .r, .l] n (laws_eqLaneS_Q0 x0 x1 x2) (CQ funcTab D n 61 [] [.r, .r, .l, .r, .l] (lastK funcTab 61)) = laws_eqLaneS_LP0 D n x0 x1 x2 := by
  rw [laws_eqLaneS_EL0]
  simp only [laws_eqLaneS_X0_0, laws_eqLaneS_X0_1]
  rfl
theorem E_laws_eqLaneS (D : Den ctx) (n : Nat) (a0 : List (ByteArray × List Int × Unit)) (a1 : List (ByteArray × List Int × Unit)) : rfC funcTab D n 61 (a0, (a1, ())) = F_laws_eqLaneS D n a0 a1 := by
  have h : rfC funcTab D n 61 (a0, (a1, ())) = laws_eqLaneS_e D n (fun x0 x1 x2 => LQ funcTab D n 61 [.r, .r, .l, .r, .l] n (laws_eqLaneS_Q0 x0 x1 x2) (CQ funcTab D n 61 [] [.r, .r, .l, .r, .l] (lastK funcTab 61))) a0 a1 := by kernel_rfl
  rw [h]
  simp only [laws_eqLaneS_ELP0]
  rfl
end Go.G

namespace Go.G
set_option maxRecDepth 100000
set_option maxHeartbeats 0
open Go Go.V
noncomputable def laws_markIntS_b0 (D : Den ctx) (n : Nat) (go : Int → Int → List Int → Option ((Int × Unit) × List Int × Unit)) (K0 : Int → List Int → Option ((Int × Unit) × List Int × Unit)) (x0 : Int) (x1 : Int) (x2 : List Int) : Option ((Int × Unit) × List Int × Unit) := br (decide (x1 < (↑(List.length x2) : Int))) (br (decide (0 ≤ x1) && decide (x1 < (↑(List.length x2) : Int))) (go (IntKind.wrap IntKind.i64 (x0 + 1)) (IntKind.wrap IntKind.i64 (x1 + 1)) (List.set x2 (Int.toNat x1) x0)) none) (K0 x0 x2)
noncomputable def laws_markIntS_L0 (D : Den ctx) (n : Nat) (K0 : Int → List Int → Option ((Int × Unit) × List Int × Unit)) : Nat → (Int) → (Int) → (List Int) → Option ((Int × Unit) × List Int × Unit) | 0 => (fun x0 x1 x2 => none) | m + 1 => (fun x0 x1 x2 => laws_markIntS_b0 D n (laws_markIntS_L0 D n K0 m) K0 x0 x1 x2)
noncomputable def laws_markIntS_x0_0 (D : Den ctx) (n : Nat) (v0_0 : Int) (v0_1 : List Int) : Option ((Int × Unit) × List Int × Unit) := some ((v0_0, ()), v0_1, ())
noncomputable def laws_markIntS_LP0 (D : Den ctx) (n : Nat) : (Int) → (Int) → (List Int) → Option ((Int × Unit) × List Int × Unit) := (fun x0 x1 x2 => laws_markIntS_L0 D n (fun v0_0 v0_1 => laws_markIntS_x0_0 D n v0_0 v0_1) n x0 x1 x2)
noncomputable def laws_markIntS_e (D : Den ctx) (n : Nat) (lp0 : Int → Int → List Int → Option ((Int × Unit) × List Int × Unit)) (a0 : List Int) (a1 : Int) : Option ((Int × Unit) × List Int × Unit) := lp0 a1 0 a0
noncomputable def F_laws_markIntS (D : Den ctx) (n : Nat) (a0 : List Int) (a1 : Int) : Option ((Int × Unit) × List Int × Unit) := laws_markIntS_e D n (laws_markIntS_LP0 D n) a0 a1
def laws_markIntS_Q0 (x0 : Int) (x1 : Int) (x2 : List Int) : St := stq 19 [(0, AV.brw 0 [] 1048576), (1, AV.val (Ty.int IntKind.i64) x0), (5, AV.val (Ty.int IntKind.i64) x1)] [(0, Root.mk (Ty.sl (Ty.int IntKind.i64)) (Mk.own 1048576 Mk.no) x2 false)]
def laws_markIntS_Q0_0 (v0_0 : Int) (v0_1 : List Int) : St := stq 19 [(0, AV.brw 0 [] 1048576), (1, AV.val (Ty.int IntKind.i64) v0_0)] [(0, Root.mk (Ty.sl (Ty.int IntKind.i64)) (Mk.own 1048576 Mk.no) v0_1 false)]
theorem laws_markIntS_SB0 (D : Den ctx) (n : Nat) (m : Nat) (K : Ex → St → Option (Out ctx 62)) (x0 : Int) (x1 : Int) (x2 : List Int) :
  LQ funcTab D n 62 [.r, .l, .r, .l] (m + 1) (laws_markIntS_Q0 x0 x1 x2) K = laws_markIntS_b0 D n (fun x0 x1 x2 => LQ funcTab D n 62 [.r, .l, .r, .l] m (laws_markIntS_Q0 x0 x1 x2) K) (fun v0_0 v0_1 => K (Ex.exit 0) (laws_markIntS_Q0_0 v0_0 v0_1)) x0 x1 x2 := by kernel_rfl
theorem laws_markIntS_EL0 (D : Den ctx) (n : Nat) (K : Ex → St → Option (Out ctx 62)) : ∀ (m : Nat) (x0 : Int) (x1 : Int) (x2 : List Int), LQ funcTab D n 62 [.r, .l, .r, .l] m (laws_markIntS_Q0 x0 x1 x2) K = laws_markIntS_L0 D n (fun v0_0 v0_1 => K (Ex.exit 0) (laws_markIntS_Q0_0 v0_0 v0_1)) m x0 x1 x2
  | 0, x0, x1, x2 => LQ_zero ..
  | m + 1, x0, x1, x2 => by
    have ih : (fun x0 x1 x2 => LQ funcTab D n 62 [.r, .l, .r, .l] m (laws_markIntS_Q0 x0 x1 x2) K) = laws_markIntS_L0 D n (fun v0_0 v0_1 => K (Ex.exit 0) (laws_markIntS_Q0_0 v0_0 v0_1)) m := by funext x0 x1 x2; exact laws_markIntS_EL0 D n K m x0 x1 x2
    rw [laws_markIntS_SB0]
    rw [ih]; rfl
theorem laws_markIntS_X0_0 (D : Den ctx) (n : Nat) (v0_0 : Int) (v0_1 : List Int) :
  (CQ funcTab D n 62 [] [.r, .l, .r, .l] (lastK funcTab 62)) (Ex.exit 0) (laws_markIntS_Q0_0 v0_0 v0_1) = laws_markIntS_x0_0 D n v0_0 v0_1 := by kernel_rfl
theorem laws_markIntS_ELP0 (D : Den ctx) (n : Nat) (x0 : Int) (x1 : Int) (x2 : List Int) :
  LQ funcTab D n 62 [.r, .l, .r, .l] n (laws_markIntS_Q0 x0 x1 x2) (CQ funcTab D n 62 [] [.r, .l, .r, .l] (lastK funcTab 62)) = laws_markIntS_LP0 D n x0 x1 x2 := by
  rw [laws_markIntS_EL0]
  simp only [laws_markIntS_X0_0]
  rfl
theorem E_laws_markIntS (D : Den ctx) (n : Nat) (a0 : List Int) (a1 : Int) : rfC funcTab D n 62 (a0, (a1, ())) = F_laws_markIntS D n a0 a1 := by
  have h : rfC funcTab D n 62 (a0, (a1, ())) = laws_markIntS_e D n (fun x0 x1 x2 => LQ funcTab D n 62 [.r, .l, .r, .l] n (laws_markIntS_Q0 x0 x1 x2) (CQ funcTab D n 62 [] [.r, .l, .r, .l] (lastK funcTab 62))) a0 a1 := by kernel_rfl
  rw [h]
  simp only [laws_markIntS_ELP0]
  rfl
end Go.G

namespace Go.G
set_option maxRecDepth 100000
set_option maxHeartbeats 0
open Go Go.V
noncomputable def laws_markLaneS_b0 (D : Den ctx) (n : Nat) (go : Int → Int → List (ByteArray × List Int × Unit) → Option ((Int × Unit) × List (ByteArray × List Int × Unit) × Unit)) (K0 : Int → List (ByteArray × List Int × Unit) → Option ((Int × Unit) × List (ByteArray × List Int × Unit) × Unit)) (x0 : Int) (x1 : Int) (x2 : List (ByteArray × List Int × Unit)) : Option ((Int × Unit) × List (ByteArray × List Int × Unit) × Unit) := br (decide (x1 < (↑(List.length x2) : Int))) (bindD (C_laws_markText D x0) fun b ↦ br (decide (0 ≤ x1) && decide (x1 < (↑(List.length x2) : Int))) (br (decide (0 ≤ x1) && decide (x1 < (↑(List.length (List.set x2 (Int.toNat x1) (Prod.fst (Prod.fst b), Prod.snd (List.getD x2 (Int.toNat x1) (ByteArray.empty, [], ()))))) : Int))) (bindD (C_laws_markIntS D (Prod.fst (Prod.snd (List.getD (List.set x2 (Int.toNat x1) (Prod.fst (Prod.fst b), Prod.snd (List.getD x2 (Int.toNat x1) (ByteArray.empty, [], ())))) (Int.toNat x1) (ByteArray.empty, [], ())))) (IntKind.wrap IntKind.i64 (x0 + 1))) fun b_1 ↦ br (lendsOk [PK.mutv (Ty.sl (Ty.int IntKind.i64)) (Mk.top (Ty.sl (Ty.int IntKind.i64))) (Mk.top (Ty.sl (Ty.int IntKind.i64))), PK.val (Ty.int IntKind.i64)] (List.map (ev (St.mk [AV.brw 0 [] 1048576, AV.val (Ty.int IntKind.i64) (IntKind.wrap IntKind.i64 (x0 + 1)), AV.undef, AV.undef, AV.undef, AV.val (Ty.int IntKind.i64) x1, AV.val (Ty.int IntKind.i64) x1, AV.brw 0 [] 1048576, AV.val (Ty.int IntKind.i64) (↑(List.length x2) : Int), AV.val Ty.bool (decide (x1 < (↑(List.length x2) : Int))), AV.undef, AV.undef, AV.brw 0 [] 1048576, AV.val (Ty.int IntKind.i64) x1, AV.val (Ty.int IntKind.i64) x0, AV.val Ty.str (Prod.fst (Prod.fst b)), AV.addr 0 [Stp.idx (Int.toNat x1) 1048576], AV.addr 0 [Stp.idx (Int.toNat x1) 1048576, Stp.fst], AV.val (Ty.int IntKind.i64) x0, AV.val (Ty.int IntKind.i64) (IntKind.wrap IntKind.i64 (x0 + 1)), AV.brw 0 [] 1048576, AV.val (Ty.int IntKind.i64) x1, AV.addr 0 [Stp.idx (Int.toNat x1) 1048576], AV.addr 0 [Stp.idx (Int.toNat x1) 1048576, Stp.snd, Stp.fst], AV.brw 0 [Stp.idx (Int.toNat x1) 1048576, Stp.snd, Stp.fst] 0, AV.val (Ty.int IntKind.i64) (IntKind.wrap IntKind.i64 (x0 + 1)), AV.undef, AV.undef] [some (Root.mk (Ty.sl (Ty.pair Ty.str (Ty.pair (Ty.sl (Ty.int IntKind.i64)) Ty.unit))) (Mk.own 1048576 (Mk.pr Mk.no (Mk.pr (Mk.own 0 Mk.no) Mk.no))) (List.set x2 (Int.toNat x1) (Prod.fst (Prod.fst b), Prod.snd (List.getD x2 (Int.toNat x1) (ByteArray.empty, [], ())))) false), none, none, none, none, none, none, none, none, none, none, none, none, none, none, none, none, none, none, none, none, none, none, none, none, none, none, none])) [Operand.tmp 24, Operand.tmp 25] ++ avList AV.unit)) (go (Prod.fst (Prod.fst b_1)) (IntKind.wrap IntKind.i64 (x1 + 1)) (List.set (List.set x2 (Int.toNat x1) (Prod.fst (Prod.fst b), Prod.snd (List.getD x2 (Int.toNat x1) (ByteArray.empty, [], ())))) (Int.toNat x1) (Prod.fst (List.getD (List.set x2 (Int.toNat x1) (Prod.fst (Prod.fst b), Prod.snd (List.getD x2 (Int.toNat x1) (ByteArray.empty, [], ())))) (Int.toNat x1) (ByteArray.empty, [], ())), Prod.fst (Prod.snd b_1), Prod.snd (Prod.snd (List.getD (List.set x2 (Int.toNat x1) (Prod.fst (Prod.fst b), Prod.snd (List.getD x2 (Int.toNat x1) (ByteArray.empty, [], ())))) (Int.toNat x1) (ByteArray.empty, [], ())))))) none) none) none) (K0 x0 x2)
noncomputable def laws_markLaneS_L0 (D : Den ctx) (n : Nat) (K0 : Int → List (ByteArray × List Int × Unit) → Option ((Int × Unit) × List (ByteArray × List Int × Unit) × Unit)) : Nat → (Int) → (Int) → (List (ByteArray × List Int × Unit)) → Option ((Int × Unit) × List (ByteArray × List Int × Unit) × Unit) | 0 => (fun x0 x1 x2 => none) | m + 1 => (fun x0 x1 x2 => laws_markLaneS_b0 D n (laws_markLaneS_L0 D n K0 m) K0 x0 x1 x2)
noncomputable def laws_markLaneS_x0_0 (D : Den ctx) (n : Nat) (v0_0 : Int) (v0_1 : List (ByteArray × List Int × Unit)) : Option ((Int × Unit) × List (ByteArray × List Int × Unit) × Unit) := some ((v0_0, ()), v0_1, ())
noncomputable def laws_markLaneS_LP0 (D : Den ctx) (n : Nat) : (Int) → (Int) → (List (ByteArray × List Int × Unit)) → Option ((Int × Unit) × List (ByteArray × List Int × Unit) × Unit) := (fun x0 x1 x2 => laws_markLaneS_L0 D n (fun v0_0 v0_1 => laws_markLaneS_x0_0 D n v0_0 v0_1) n x0 x1 x2)
noncomputable def laws_markLaneS_e (D : Den ctx) (n : Nat) (lp0 : Int → Int → List (ByteArray × List Int × Unit) → Option ((Int × Unit) × List (ByteArray × List Int × Unit) × Unit)) (a0 : List (ByteArray × List Int × Unit)) (a1 : Int) : Option ((Int × Unit) × List (ByteArray × List Int × Unit) × Unit) := lp0 a1 0 a0
noncomputable def F_laws_markLaneS (D : Den ctx) (n : Nat) (a0 : List (ByteArray × List Int × Unit)) (a1 : Int) : Option ((Int × Unit) × List (ByteArray × List Int × Unit) × Unit) := laws_markLaneS_e D n (laws_markLaneS_LP0 D n) a0 a1
def laws_markLaneS_Q0 (x0 : Int) (x1 : Int) (x2 : List (ByteArray × List Int × Unit)) : St := stq 28 [(0, AV.brw 0 [] 1048576), (1, AV.val (Ty.int IntKind.i64) x0), (5, AV.val (Ty.int IntKind.i64) x1)] [(0, Root.mk (Ty.sl (Ty.pair Ty.str (Ty.pair (Ty.sl (Ty.int IntKind.i64)) Ty.unit))) (Mk.own 1048576 (Mk.pr Mk.no (Mk.pr (Mk.own 0 Mk.no) Mk.no))) x2 false)]
def laws_markLaneS_Q0_0 (v0_0 : Int) (v0_1 : List (ByteArray × List Int × Unit)) : St := stq 28 [(0, AV.brw 0 [] 1048576), (1, AV.val (Ty.int IntKind.i64) v0_0)] [(0, Root.mk (Ty.sl (Ty.pair Ty.str (Ty.pair (Ty.sl (Ty.int IntKind.i64)) Ty.unit))) (Mk.own 1048576 (Mk.pr Mk.no (Mk.pr (Mk.own 0 Mk.no) Mk.no))) v0_1 false)]
theorem laws_markLaneS_SB0 (D : Den ctx) (n : Nat) (m : Nat) (K : Ex → St → Option (Out ctx 63)) (x0 : Int) (x1 : Int) (x2 : List (ByteArray × List Int × Unit)) :
  LQ funcTab D n 63 [.r, .l, .r, .l] (m + 1) (laws_markLaneS_Q0 x0 x1 x2) K = laws_markLaneS_b0 D n (fun x0 x1 x2 => LQ funcTab D n 63 [.r, .l, .r, .l] m (laws_markLaneS_Q0 x0 x1 x2) K) (fun v0_0 v0_1 => K (Ex.exit 0) (laws_markLaneS_Q0_0 v0_0 v0_1)) x0 x1 x2 := by kernel_rfl
theorem laws_markLaneS_EL0 (D : Den ctx) (n : Nat) (K : Ex → St → Option (Out ctx 63)) : ∀ (m : Nat) (x0 : Int) (x1 : Int) (x2 : List (ByteArray × List Int × Unit)), LQ funcTab D n 63 [.r, .l, .r, .l] m (laws_markLaneS_Q0 x0 x1 x2) K = laws_markLaneS_L0 D n (fun v0_0 v0_1 => K (Ex.exit 0) (laws_markLaneS_Q0_0 v0_0 v0_1)) m x0 x1 x2
  | 0, x0, x1, x2 => LQ_zero ..
  | m + 1, x0, x1, x2 => by
    have ih : (fun x0 x1 x2 => LQ funcTab D n 63 [.r, .l, .r, .l] m (laws_markLaneS_Q0 x0 x1 x2) K) = laws_markLaneS_L0 D n (fun v0_0 v0_1 => K (Ex.exit 0) (laws_markLaneS_Q0_0 v0_0 v0_1)) m := by funext x0 x1 x2; exact laws_markLaneS_EL0 D n K m x0 x1 x2
    rw [laws_markLaneS_SB0]
    rw [ih]; rfl
theorem laws_markLaneS_X0_0 (D : Den ctx) (n : Nat) (v0_0 : Int) (v0_1 : List (ByteArray × List Int × Unit)) :
  (CQ funcTab D n 63 [] [.r, .l, .r, .l] (lastK funcTab 63)) (Ex.exit 0) (laws_markLaneS_Q0_0 v0_0 v0_1) = laws_markLaneS_x0_0 D n v0_0 v0_1 := by kernel_rfl
theorem laws_markLaneS_ELP0 (D : Den ctx) (n : Nat) (x0 : Int) (x1 : Int) (x2 : List (ByteArray × List Int × Unit)) :
  LQ funcTab D n 63 [.r, .l, .r, .l] n (laws_markLaneS_Q0 x0 x1 x2) (CQ funcTab D n 63 [] [.r, .l, .r, .l] (lastK funcTab 63)) = laws_markLaneS_LP0 D n x0 x1 x2 := by
  rw [laws_markLaneS_EL0]
  simp only [laws_markLaneS_X0_0]
  rfl
theorem E_laws_markLaneS (D : Den ctx) (n : Nat) (a0 : List (ByteArray × List Int × Unit)) (a1 : Int) : rfC funcTab D n 63 (a0, (a1, ())) = F_laws_markLaneS D n a0 a1 := by
  have h : rfC funcTab D n 63 (a0, (a1, ())) = laws_markLaneS_e D n (fun x0 x1 x2 => LQ funcTab D n 63 [.r, .l, .r, .l] n (laws_markLaneS_Q0 x0 x1 x2) (CQ funcTab D n 63 [] [.r, .l, .r, .l] (lastK funcTab 63))) a0 a1 := by kernel_rfl
  rw [h]
  simp only [laws_markLaneS_ELP0]
  rfl
end Go.G

namespace Go.G
set_option maxRecDepth 100000
set_option maxHeartbeats 0
open Go Go.V
noncomputable def laws_heldIntS_b0 (D : Den ctx) (n : Nat) (go : List Int → Int → Int → Option ((Int × Unit) × Unit)) (K0 : Int → Int → Option ((Int × Unit) × Unit)) (K1 : Int → Option ((Int × Unit) × Unit)) (x0 : List Int) (x1 : Int) (x2 : Int) : Option ((Int × Unit) × Unit) := br (decide (x2 < (↑(List.length x0) : Int))) (br (decide (0 ≤ x2) && decide (x2 < (↑(List.length x0) : Int))) (br (List.getD x0 (Int.toNat x2) 0 != x1) (K0 x1 (-1)) (go x0 (IntKind.wrap IntKind.i64 (x1 + 1)) (IntKind.wrap IntKind.i64 (x2 + 1)))) none) (K1 x1)
noncomputable def laws_heldIntS_L0 (D : Den ctx) (n : Nat) (K0 : Int → Int → Option ((Int × Unit) × Unit)) (K1 : Int → Option ((Int × Unit) × Unit)) : Nat → (List Int) → (Int) → (Int) → Option ((Int × Unit) × Unit) | 0 => (fun x0 x1 x2 => none) | m + 1 => (fun x0 x1 x2 => laws_heldIntS_b0 D n (laws_heldIntS_L0 D n K0 K1 m) K0 K1 x0 x1 x2)
noncomputable def laws_heldIntS_x0_0 (D : Den ctx) (n : Nat) (v0_0 : Int) (v0_1 : Int) : Option ((Int × Unit) × Unit) := some ((v0_1, ()), ())
noncomputable def laws_heldIntS_x0_1 (D : Den ctx) (n : Nat) (v1_0 : Int) : Option ((Int × Unit) × Unit) := some ((v1_0, ()), ())
noncomputable def laws_heldIntS_LP0 (D : Den ctx) (n : Nat) : (List Int) → (Int) → (Int) → Option ((Int × Unit) × Unit) := (fun x0 x1 x2 => laws_heldIntS_L0 D n (fun v0_0 v0_1 => laws_heldIntS_x0_0 D n v0_0 v0_1) (fun v1_0 => laws_heldIntS_x0_1 D n v1_0) n x0 x1 x2)
noncomputable def laws_heldIntS_e (D : Den ctx) (n : Nat) (lp0 : List Int → Int → Int → Option ((Int × Unit) × Unit)) (a0 : List Int) (a1 : Int) : Option ((Int × Unit) × Unit) := lp0 a0 a1 0
noncomputable def F_laws_heldIntS (D : Den ctx) (n : Nat) (a0 : List Int) (a1 : Int) : Option ((Int × Unit) × Unit) := laws_heldIntS_e D n (laws_heldIntS_LP0 D n) a0 a1
def laws_heldIntS_Q0 (x0 : List Int) (x1 : Int) (x2 : Int) : St := stq 21 [(0, AV.val (Ty.sl (Ty.int IntKind.i64)) x0), (1, AV.val (Ty.int IntKind.i64) x1), (5, AV.val (Ty.int IntKind.i64) x2)] []
def laws_heldIntS_Q0_0 (v0_0 : Int) (v0_1 : Int) : St := stq 21 [(1, AV.val (Ty.int IntKind.i64) v0_0), (4, AV.val (Ty.int IntKind.i64) v0_1)] []
def laws_heldIntS_Q0_1 (v1_0 : Int) : St := stq 21 [(1, AV.val (Ty.int IntKind.i64) v1_0)] []
theorem laws_heldIntS_SB0 (D : Den ctx) (n : Nat) (m : Nat) (K : Ex → St → Option (Out ctx 64)) (x0 : List Int) (x1 : Int) (x2 : Int) :
  LQ funcTab D n 64 [.r, .l, .r, .l] (m + 1) (laws_heldIntS_Q0 x0 x1 x2) K = laws_heldIntS_b0 D n (fun x0 x1 x2 => LQ funcTab D n 64 [.r, .l, .r, .l] m (laws_heldIntS_Q0 x0 x1 x2) K) (fun v0_0 v0_1 => K (Ex.ret) (laws_heldIntS_Q0_0 v0_0 v0_1)) (fun v1_0 => K (Ex.exit 0) (laws_heldIntS_Q0_1 v1_0)) x0 x1 x2 := by kernel_rfl
theorem laws_heldIntS_EL0 (D : Den ctx) (n : Nat) (K : Ex → St → Option (Out ctx 64)) : ∀ (m : Nat) (x0 : List Int) (x1 : Int) (x2 : Int), LQ funcTab D n 64 [.r, .l, .r, .l] m (laws_heldIntS_Q0 x0 x1 x2) K = laws_heldIntS_L0 D n (fun v0_0 v0_1 => K (Ex.ret) (laws_heldIntS_Q0_0 v0_0 v0_1)) (fun v1_0 => K (Ex.exit 0) (laws_heldIntS_Q0_1 v1_0)) m x0 x1 x2
  | 0, x0, x1, x2 => LQ_zero ..
  | m + 1, x0, x1, x2 => by
    have ih : (fun x0 x1 x2 => LQ funcTab D n 64 [.r, .l, .r, .l] m (laws_heldIntS_Q0 x0 x1 x2) K) = laws_heldIntS_L0 D n (fun v0_0 v0_1 => K (Ex.ret) (laws_heldIntS_Q0_0 v0_0 v0_1)) (fun v1_0 => K (Ex.exit 0) (laws_heldIntS_Q0_1 v1_0)) m := by funext x0 x1 x2; exact laws_heldIntS_EL0 D n K m x0 x1 x2
    rw [laws_heldIntS_SB0]
    rw [ih]; rfl
theorem laws_heldIntS_X0_0 (D : Den ctx) (n : Nat) (v0_0 : Int) (v0_1 : Int) :
  (CQ funcTab D n 64 [] [.r, .l, .r, .l] (lastK funcTab 64)) (Ex.ret) (laws_heldIntS_Q0_0 v0_0 v0_1) = laws_heldIntS_x0_0 D n v0_0 v0_1 := by kernel_rfl
theorem laws_heldIntS_X0_1 (D : Den ctx) (n : Nat) (v1_0 : Int) :
  (CQ funcTab D n 64 [] [.r, .l, .r, .l] (lastK funcTab 64)) (Ex.exit 0) (laws_heldIntS_Q0_1 v1_0) = laws_heldIntS_x0_1 D n v1_0 := by kernel_rfl
theorem laws_heldIntS_ELP0 (D : Den ctx) (n : Nat) (x0 : List Int) (x1 : Int) (x2 : Int) :
  LQ funcTab D n 64 [.r, .l, .r, .l] n (laws_heldIntS_Q0 x0 x1 x2) (CQ funcTab D n 64 [] [.r, .l, .r, .l] (lastK funcTab 64)) = laws_heldIntS_LP0 D n x0 x1 x2 := by
  rw [laws_heldIntS_EL0]
  simp only [laws_heldIntS_X0_0, laws_heldIntS_X0_1]
  rfl
theorem E_laws_heldIntS (D : Den ctx) (n : Nat) (a0 : List Int) (a1 : Int) : rfC funcTab D n 64 (a0, (a1, ())) = F_laws_heldIntS D n a0 a1 := by
  have h : rfC funcTab D n 64 (a0, (a1, ())) = laws_heldIntS_e D n (fun x0 x1 x2 => LQ funcTab D n 64 [.r, .l, .r, .l] n (laws_heldIntS_Q0 x0 x1 x2) (CQ funcTab D n 64 [] [.r, .l, .r, .l] (lastK funcTab 64))) a0 a1 := by kernel_rfl
  rw [h]
  simp only [laws_heldIntS_ELP0]
  rfl
end Go.G

namespace Go.G
set_option maxRecDepth 100000
set_option maxHeartbeats 0
open Go Go.V
noncomputable def laws_heldLaneS_b0 (D : Den ctx) (n : Nat) (go : List (ByteArray × List Int × Unit) → Int → Int → Option ((Int × Unit) × Unit)) (K0 : Int → Int → Option ((Int × Unit) × Unit)) (K1 : Int → Option ((Int × Unit) × Unit)) (x0 : List (ByteArray × List Int × Unit)) (x1 : Int) (x2 : Int) : Option ((Int × Unit) × Unit) := br (decide (x2 < (↑(List.length x0) : Int))) (br (decide (0 ≤ x2) && decide (x2 < (↑(List.length x0) : Int))) (bindD (C_laws_markText D x1) fun b ↦ br (!List.beq (ByteArray.toList (Prod.fst (List.getD x0 (Int.toNat x2) (ByteArray.empty, [], ())))) (ByteArray.toList (Prod.fst (Prod.fst b)))) (K0 x1 (-1)) (br (decide (0 ≤ x2) && decide (x2 < (↑(List.length x0) : Int))) (bindD (C_laws_heldIntS D (Prod.fst (Prod.snd (List.getD x0 (Int.toNat x2) (ByteArray.empty, [], ())))) (IntKind.wrap IntKind.i64 (x1 + 1))) fun b ↦ br (decide (Prod.fst (Prod.fst b) < 0)) (K0 (Prod.fst (Prod.fst b)) (-1)) (go x0 (Prod.fst (Prod.fst b)) (IntKind.wrap IntKind.i64 (x2 + 1)))) none)) none) (K1 x1)
noncomputable def laws_heldLaneS_L0 (D : Den ctx) (n : Nat) (K0 : Int → Int → Option ((Int × Unit) × Unit)) (K1 : Int → Option ((Int × Unit) × Unit)) : Nat → (List (ByteArray × List Int × Unit)) → (Int) → (Int) → Option ((Int × Unit) × Unit) | 0 => (fun x0 x1 x2 => none) | m + 1 => (fun x0 x1 x2 => laws_heldLaneS_b0 D n (laws_heldLaneS_L0 D n K0 K1 m) K0 K1 x0 x1 x2)
noncomputable def laws_heldLaneS_x0_0 (D : Den ctx) (n : Nat) (v0_0 : Int) (v0_1 : Int) : Option ((Int × Unit) × Unit) := some ((v0_1, ()), ())
noncomputable def laws_heldLaneS_x0_1 (D : Den ctx) (n : Nat) (v1_0 : Int) : Option ((Int × Unit) × Unit) := some ((v1_0, ()), ())
noncomputable def laws_heldLaneS_LP0 (D : Den ctx) (n : Nat) : (List (ByteArray × List Int × Unit)) → (Int) → (Int) → Option ((Int × Unit) × Unit) := (fun x0 x1 x2 => laws_heldLaneS_L0 D n (fun v0_0 v0_1 => laws_heldLaneS_x0_0 D n v0_0 v0_1) (fun v1_0 => laws_heldLaneS_x0_1 D n v1_0) n x0 x1 x2)
noncomputable def laws_heldLaneS_e (D : Den ctx) (n : Nat) (lp0 : List (ByteArray × List Int × Unit) → Int → Int → Option ((Int × Unit) × Unit)) (a0 : List (ByteArray × List Int × Unit)) (a1 : Int) : Option ((Int × Unit) × Unit) := lp0 a0 a1 0
noncomputable def F_laws_heldLaneS (D : Den ctx) (n : Nat) (a0 : List (ByteArray × List Int × Unit)) (a1 : Int) : Option ((Int × Unit) × Unit) := laws_heldLaneS_e D n (laws_heldLaneS_LP0 D n) a0 a1
def laws_heldLaneS_Q0 (x0 : List (ByteArray × List Int × Unit)) (x1 : Int) (x2 : Int) : St := stq 32 [(0, AV.val (Ty.sl (Ty.pair Ty.str (Ty.pair (Ty.sl (Ty.int IntKind.i64)) Ty.unit))) x0), (1, AV.val (Ty.int IntKind.i64) x1), (5, AV.val (Ty.int IntKind.i64) x2)] []
def laws_heldLaneS_Q0_0 (v0_0 : Int) (v0_1 : Int) : St := stq 32 [(1, AV.val (Ty.int IntKind.i64) v0_0), (4, AV.val (Ty.int IntKind.i64) v0_1)] []
def laws_heldLaneS_Q0_1 (v1_0 : Int) : St := stq 32 [(1, AV.val (Ty.int IntKind.i64) v1_0)] []
theorem laws_heldLaneS_SB0 (D : Den ctx) (n : Nat) (m : Nat) (K : Ex → St → Option (Out ctx 65)) (x0 : List (ByteArray × List Int × Unit)) (x1 : Int) (x2 : Int) :
  LQ funcTab D n 65 [.r, .l, .r, .l] (m + 1) (laws_heldLaneS_Q0 x0 x1 x2) K = laws_heldLaneS_b0 D n (fun x0 x1 x2 => LQ funcTab D n 65 [.r, .l, .r, .l] m (laws_heldLaneS_Q0 x0 x1 x2) K) (fun v0_0 v0_1 => K (Ex.ret) (laws_heldLaneS_Q0_0 v0_0 v0_1)) (fun v1_0 => K (Ex.exit 0) (laws_heldLaneS_Q0_1 v1_0)) x0 x1 x2 := by kernel_rfl
theorem laws_heldLaneS_EL0 (D : Den ctx) (n : Nat) (K : Ex → St → Option (Out ctx 65)) : ∀ (m : Nat) (x0 : List (ByteArray × List Int × Unit)) (x1 : Int) (x2 : Int), LQ funcTab D n 65 [.r, .l, .r, .l] m (laws_heldLaneS_Q0 x0 x1 x2) K = laws_heldLaneS_L0 D n (fun v0_0 v0_1 => K (Ex.ret) (laws_heldLaneS_Q0_0 v0_0 v0_1)) (fun v1_0 => K (Ex.exit 0) (laws_heldLaneS_Q0_1 v1_0)) m x0 x1 x2
  | 0, x0, x1, x2 => LQ_zero ..
  | m + 1, x0, x1, x2 => by
    have ih : (fun x0 x1 x2 => LQ funcTab D n 65 [.r, .l, .r, .l] m (laws_heldLaneS_Q0 x0 x1 x2) K) = laws_heldLaneS_L0 D n (fun v0_0 v0_1 => K (Ex.ret) (laws_heldLaneS_Q0_0 v0_0 v0_1)) (fun v1_0 => K (Ex.exit 0) (laws_heldLaneS_Q0_1 v1_0)) m := by funext x0 x1 x2; exact laws_heldLaneS_EL0 D n K m x0 x1 x2
    rw [laws_heldLaneS_SB0]
    rw [ih]; rfl
theorem laws_heldLaneS_X0_0 (D : Den ctx) (n : Nat) (v0_0 : Int) (v0_1 : Int) :
  (CQ funcTab D n 65 [] [.r, .l, .r, .l] (lastK funcTab 65)) (Ex.ret) (laws_heldLaneS_Q0_0 v0_0 v0_1) = laws_heldLaneS_x0_0 D n v0_0 v0_1 := by kernel_rfl
theorem laws_heldLaneS_X0_1 (D : Den ctx) (n : Nat) (v1_0 : Int) :
  (CQ funcTab D n 65 [] [.r, .l, .r, .l] (lastK funcTab 65)) (Ex.exit 0) (laws_heldLaneS_Q0_1 v1_0) = laws_heldLaneS_x0_1 D n v1_0 := by kernel_rfl
theorem laws_heldLaneS_ELP0 (D : Den ctx) (n : Nat) (x0 : List (ByteArray × List Int × Unit)) (x1 : Int) (x2 : Int) :
  LQ funcTab D n 65 [.r, .l, .r, .l] n (laws_heldLaneS_Q0 x0 x1 x2) (CQ funcTab D n 65 [] [.r, .l, .r, .l] (lastK funcTab 65)) = laws_heldLaneS_LP0 D n x0 x1 x2 := by
  rw [laws_heldLaneS_EL0]
  simp only [laws_heldLaneS_X0_0, laws_heldLaneS_X0_1]
  rfl
theorem E_laws_heldLaneS (D : Den ctx) (n : Nat) (a0 : List (ByteArray × List Int × Unit)) (a1 : Int) : rfC funcTab D n 65 (a0, (a1, ())) = F_laws_heldLaneS D n a0 a1 := by
  have h : rfC funcTab D n 65 (a0, (a1, ())) = laws_heldLaneS_e D n (fun x0 x1 x2 => LQ funcTab D n 65 [.r, .l, .r, .l] n (laws_heldLaneS_Q0 x0 x1 x2) (CQ funcTab D n 65 [] [.r, .l, .r, .l] (lastK funcTab 65))) a0 a1 := by kernel_rfl
  rw [h]
  simp only [laws_heldLaneS_ELP0]
  rfl
end Go.G

namespace Go.G
set_option maxRecDepth 100000
set_option maxHeartbeats 0
open Go Go.V
noncomputable def laws_markText_b0 (D : Den ctx) (n : Nat) (go : Int → ByteArray → Option ((ByteArray × Unit) × Unit)) (K0 : ByteArray → Option ((ByteArray × Unit) × Unit)) (x0 : Int) (x1 : ByteArray) : Option ((ByteArray × Unit) × Unit) := br (decide (x0 > 0)) (br (decide (ByteArray.size (ByteArray.mk (List.toArray (List.map (fun n ↦ UInt8.ofNat (Int.toNat n)) [IntKind.wrap IntKind.u8 (IntKind.wrap IntKind.i64 (48 + Int.tmod x0 10))]))) + ByteArray.size x1 ≤ Nat.pow 2 47)) (go (IntKind.wrap IntKind.i64 (Int.tdiv x0 10)) (ByteArray.append (ByteArray.mk (List.toArray (List.map (fun n ↦ UInt8.ofNat (Int.toNat n)) [IntKind.wrap IntKind.u8 (IntKind.wrap IntKind.i64 (48 + Int.tmod x0 10))]))) x1)) none) (K0 x1)
noncomputable def laws_markText_L0 (D : Den ctx) (n : Nat) (K0 : ByteArray → Option ((ByteArray × Unit) × Unit)) : Nat → (Int) → (ByteArray) → Option ((ByteArray × Unit) × Unit) | 0 => (fun x0 x1 => none) | m + 1 => (fun x0 x1 => laws_markText_b0 D n (laws_markText_L0 D n K0 m) K0 x0 x1)
noncomputable def laws_markText_x0_0 (D : Den ctx) (n : Nat) (v0_0 : ByteArray) : Option ((ByteArray × Unit) × Unit) := br (decide (ByteArray.size (ByteArray.mk #[UInt8.ofNat 109]) + ByteArray.size v0_0 ≤ Nat.pow 2 47)) (some ((ByteArray.append (ByteArray.mk #[UInt8.ofNat 109]) v0_0, ()), ())) none
noncomputable def laws_markText_LP0 (D : Den ctx) (n : Nat) : (Int) → (ByteArray) → Option ((ByteArray × Unit) × Unit) := (fun x0 x1 => laws_markText_L0 D n (fun v0_0 => laws_markText_x0_0 D n v0_0) n x0 x1)
noncomputable def laws_markText_e (D : Den ctx) (n : Nat) (lp0 : Int → ByteArray → Option ((ByteArray × Unit) × Unit)) (a0 : Int) : Option ((ByteArray × Unit) × Unit) := br (decide (a0 ≤ 0)) (some ((ByteArray.mk #[UInt8.ofNat 109, UInt8.ofNat 48], ()), ())) (lp0 a0 (ByteArray.mk #[]))
noncomputable def F_laws_markText (D : Den ctx) (n : Nat) (a0 : Int) : Option ((ByteArray × Unit) × Unit) := laws_markText_e D n (laws_markText_LP0 D n) a0
def laws_markText_Q0 (x0 : Int) (x1 : ByteArray) : St := stq 20 [(0, AV.val (Ty.int IntKind.i64) x0), (3, AV.val Ty.str x1)] []
def laws_markText_Q0_0 (v0_0 : ByteArray) : St := stq 20 [(3, AV.val Ty.str v0_0)] []
theorem laws_markText_SB0 (D : Den ctx) (n : Nat) (m : Nat) (K : Ex → St → Option (Out ctx 70)) (x0 : Int) (x1 : ByteArray) :
  LQ funcTab D n 70 [.r, .r, .r, .l, .l] (m + 1) (laws_markText_Q0 x0 x1) K = laws_markText_b0 D n (fun x0 x1 => LQ funcTab D n 70 [.r, .r, .r, .l, .l] m (laws_markText_Q0 x0 x1) K) (fun v0_0 => K (Ex.exit 0) (laws_markText_Q0_0 v0_0)) x0 x1 := by kernel_rfl
theorem laws_markText_EL0 (D : Den ctx) (n : Nat) (K : Ex → St → Option (Out ctx 70)) : ∀ (m : Nat) (x0 : Int) (x1 : ByteArray), LQ funcTab D n 70 [.r, .r, .r, .l, .l] m (laws_markText_Q0 x0 x1) K = laws_markText_L0 D n (fun v0_0 => K (Ex.exit 0) (laws_markText_Q0_0 v0_0)) m x0 x1
  | 0, x0, x1 => LQ_zero ..
  | m + 1, x0, x1 => by
    have ih : (fun x0 x1 => LQ funcTab D n 70 [.r, .r, .r, .l, .l] m (laws_markText_Q0 x0 x1) K) = laws_markText_L0 D n (fun v0_0 => K (Ex.exit 0) (laws_markText_Q0_0 v0_0)) m := by funext x0 x1; exact laws_markText_EL0 D n K m x0 x1
    rw [laws_markText_SB0]
    rw [ih]; rfl
theorem laws_markText_X0_0 (D : Den ctx) (n : Nat) (v0_0 : ByteArray) :
  (CQ funcTab D n 70 [] [.r, .r, .r, .l, .l] (lastK funcTab 70)) (Ex.exit 0) (laws_markText_Q0_0 v0_0) = laws_markText_x0_0 D n v0_0 := by kernel_rfl
theorem laws_markText_ELP0 (D : Den ctx) (n : Nat) (x0 : Int) (x1 : ByteArray) :
  LQ funcTab D n 70 [.r, .r, .r, .l, .l] n (laws_markText_Q0 x0 x1) (CQ funcTab D n 70 [] [.r, .r, .r, .l, .l] (lastK funcTab 70)) = laws_markText_LP0 D n x0 x1 := by
  rw [laws_markText_EL0]
  simp only [laws_markText_X0_0]
  rfl
theorem E_laws_markText (D : Den ctx) (n : Nat) (a0 : Int) : rfC funcTab D n 70 (a0, ()) = F_laws_markText D n a0 := by
  have h : rfC funcTab D n 70 (a0, ()) = laws_markText_e D n (fun x0 x1 => LQ funcTab D n 70 [.r, .r, .r, .l, .l] n (laws_markText_Q0 x0 x1) (CQ funcTab D n 70 [] [.r, .r, .r, .l, .l] (lastK funcTab 70))) a0 := by kernel_rfl
  rw [h]
  simp only [laws_markText_ELP0]
  rfl
end Go.G

namespace Go.G
set_option maxRecDepth 100000
set_option maxHeartbeats 0
open Go Go.V
noncomputable def spec_l20DrawKey_e (D : Den ctx) (n : Nat) (a0 : List Int × Int × Int × Unit) : Option ((ByteArray × Unit) × (List Int × Int × Int × Unit) × Unit) := bindD (C_spec_l1Pick D a0 (List.set (List.set (List.set (List.set (List.set (List.set (List.set (List.set (List.set (List.set (List.set (List.set (List.replicate 12 ByteArray.empty) 0 (ByteArray.mk #[])) 1 (ByteArray.mk #[UInt8.ofNat 97])) 2 (ByteArray.mk #[UInt8.ofNat 98])) 3 (ByteArray.mk #[UInt8.ofNat 99])) 4 (ByteArray.mk #[UInt8.ofNat 100])) 5 (ByteArray.mk #[UInt8.ofNat 101])) 6 (ByteArray.mk #[UInt8.ofNat 102])) 7 (ByteArray.mk #[UInt8.ofNat 103])) 8 (ByteArray.mk #[UInt8.ofNat 97, UInt8.ofNat 97])) 9 (ByteArray.mk #[UInt8.ofNat 97, UInt8.ofNat 98])) 10 (ByteArray.mk #[UInt8.ofNat 98, UInt8.ofNat 97])) 11 (ByteArray.mk #[UInt8.ofNat 0]))) fun b ↦ some ((Prod.fst (Prod.fst b), ()), Prod.fst (Prod.snd b), ())
noncomputable def F_spec_l20DrawKey (D : Den ctx) (n : Nat) (a0 : List Int × Int × Int × Unit) : Option ((ByteArray × Unit) × (List Int × Int × Int × Unit) × Unit) := spec_l20DrawKey_e D n a0
theorem E_spec_l20DrawKey (D : Den ctx) (n : Nat) (a0 : List Int × Int × Int × Unit) : rfC funcTab D n 71 (a0, ()) = F_spec_l20DrawKey D n a0 := by kernel_rfl
end Go.G

namespace Go.G
set_option maxRecDepth 100000
set_option maxHeartbeats 0
open Go Go.V
noncomputable def spec_l1New_b0 (D : Den ctx) (n : Nat) (go : List Int → Int → Int → Option (((List Int × Int × Int × Unit) × Unit) × Unit)) (K0 : List Int → Int → Option (((List Int × Int × Int × Unit) × Unit) × Unit)) (x0 : List Int) (x1 : Int) (x2 : Int) : Option (((List Int × Int × Int × Unit) × Unit) × Unit) := br (bif decide (x2 < (↑(List.length x0) : Int)) then decide (x2 < 4000) else false) (br (decide (0 ≤ x2) && decide (x2 < (↑(List.length x0) : Int))) (go x0 (IntKind.wrap IntKind.i64 (↑(BitVec.toNat (BitVec.and (BitVec.ofInt (IntKind.bits IntKind.i64) (IntKind.wrap IntKind.i64 (IntKind.wrap IntKind.i64 (IntKind.wrap IntKind.i64 (x1 * 131) + IntKind.wrap IntKind.i64 (List.getD x0 (Int.toNat x2) 0)) + 7))) (BitVec.ofInt (IntKind.bits IntKind.i64) 1073741823))) : Int)) (IntKind.wrap IntKind.i64 (x2 + 1))) none) (K0 x0 x1)
noncomputable def spec_l1New_L0 (D : Den ctx) (n : Nat) (K0 : List Int → Int → Option (((List Int × Int × Int × Unit) × Unit) × Unit)) : Nat → (List Int) → (Int) → (Int) → Option (((List Int × Int × Int × Unit) × Unit) × Unit) | 0 => (fun x0 x1 x2 => none) | m + 1 => (fun x0 x1 x2 => spec_l1New_b0 D n (spec_l1New_L0 D n K0 m) K0 x0 x1 x2)
noncomputable def spec_l1New_x0_0 (D : Den ctx) (n : Nat) (v0_0 : List Int) (v0_1 : Int) : Option (((List Int × Int × Int × Unit) × Unit) × Unit) := some (((v0_0, 0, v0_1, ()), ()), ())
noncomputable def spec_l1New_LP0 (D : Den ctx) (n : Nat) : (List Int) → (Int) → (Int) → Option (((List Int × Int × Int × Unit) × Unit) × Unit) := (fun x0 x1 x2 => spec_l1New_L0 D n (fun v0_0 v0_1 => spec_l1New_x0_0 D n v0_0 v0_1) n x0 x1 x2)
noncomputable def spec_l1New_e (D : Den ctx) (n : Nat) (lp0 : List Int → Int → Int → Option (((List Int × Int × Int × Unit) × Unit) × Unit)) (a0 : List Int) : Option (((List Int × Int × Int × Unit) × Unit) × Unit) := lp0 a0 (IntKind.wrap IntKind.i64 (27323 + (↑(List.length a0) : Int))) 0
noncomputable def F_spec_l1New (D : Den ctx) (n : Nat) (a0 : List Int) : Option (((List Int × Int × Int × Unit) × Unit) × Unit) := spec_l1New_e D n (spec_l1New_LP0 D n) a0
def spec_l1New_Q0 (x0 : List Int) (x1 : Int) (x2 : Int) : St := stq 32 [(0, AV.val (Ty.sl (Ty.int IntKind.u8)) x0), (3, AV.val (Ty.int IntKind.i64) x1), (4, AV.val (Ty.int IntKind.i64) x2)] []
def spec_l1New_Q0_0 (v0_0 : List Int) (v0_1 : Int) : St := stq 32 [(0, AV.val (Ty.sl (Ty.int IntKind.u8)) v0_0), (3, AV.val (Ty.int IntKind.i64) v0_1)] []
theorem spec_l1New_SB0 (D : Den ctx) (n : Nat) (m : Nat) (K : Ex → St → Option (Out ctx 72)) (x0 : List Int) (x1 : Int) (x2 : Int) :
  LQ funcTab D n 72 [.r, .r, .l, .r, .l] (m + 1) (spec_l1New_Q0 x0 x1 x2) K = spec_l1New_b0 D n (fun x0 x1 x2 => LQ funcTab D n 72 [.r, .r, .l, .r, .l] m (spec_l1New_Q0 x0 x1 x2) K) (fun v0_0 v0_1 => K (Ex.exit 0) (spec_l1New_Q0_0 v0_0 v0_1)) x0 x1 x2 := by kernel_rfl
theorem spec_l1New_EL0 (D : Den ctx) (n : Nat) (K : Ex → St → Option (Out ctx 72)) : ∀ (m : Nat) (x0 : List Int) (x1 : Int) (x2 : Int), LQ funcTab D n 72 [.r, .r, .l, .r, .l] m (spec_l1New_Q0 x0 x1 x2) K = spec_l1New_L0 D n (fun v0_0 v0_1 => K (Ex.exit 0) (spec_l1New_Q0_0 v0_0 v0_1)) m x0 x1 x2
  | 0, x0, x1, x2 => LQ_zero ..
  | m + 1, x0, x1, x2 => by
    have ih : (fun x0 x1 x2 => LQ funcTab D n 72 [.r, .r, .l, .r, .l] m (spec_l1New_Q0 x0 x1 x2) K) = spec_l1New_L0 D n (fun v0_0 v0_1 => K (Ex.exit 0) (spec_l1New_Q0_0 v0_0 v0_1)) m := by funext x0 x1 x2; exact spec_l1New_EL0 D n K m x0 x1 x2
    rw [spec_l1New_SB0]
    rw [ih]; rfl
theorem spec_l1New_X0_0 (D : Den ctx) (n : Nat) (v0_0 : List Int) (v0_1 : Int) :
  (CQ funcTab D n 72 [] [.r, .r, .l, .r, .l] (lastK funcTab 72)) (Ex.exit 0) (spec_l1New_Q0_0 v0_0 v0_1) = spec_l1New_x0_0 D n v0_0 v0_1 := by kernel_rfl
theorem spec_l1New_ELP0 (D : Den ctx) (n : Nat) (x0 : List Int) (x1 : Int) (x2 : Int) :
  LQ funcTab D n 72 [.r, .r, .l, .r, .l] n (spec_l1New_Q0 x0 x1 x2) (CQ funcTab D n 72 [] [.r, .r, .l, .r, .l] (lastK funcTab 72)) = spec_l1New_LP0 D n x0 x1 x2 := by
  rw [spec_l1New_EL0]
  simp only [spec_l1New_X0_0]
  rfl
theorem E_spec_l1New (D : Den ctx) (n : Nat) (a0 : List Int) : rfC funcTab D n 72 (a0, ()) = F_spec_l1New D n a0 := by
  have h : rfC funcTab D n 72 (a0, ()) = spec_l1New_e D n (fun x0 x1 x2 => LQ funcTab D n 72 [.r, .r, .l, .r, .l] n (spec_l1New_Q0 x0 x1 x2) (CQ funcTab D n 72 [] [.r, .r, .l, .r, .l] (lastK funcTab 72))) a0 := by kernel_rfl
  rw [h]
  simp only [spec_l1New_ELP0]
  rfl
end Go.G

namespace Go.G
set_option maxRecDepth 100000
set_option maxHeartbeats 0
open Go Go.V
noncomputable def impl_copySkip_b0 (D : Den ctx) (n : Nat) (go : List (ByteArray × List Int × Unit) → Int → Int → List Int × List (ByteArray × List Int × Unit) × Unit → List Int × List (ByteArray × List Int × Unit) × Unit → Option (((List Int × List (ByteArray × List Int × Unit) × Unit) × Unit) × Unit)) (K0 : List Int × List (ByteArray × List Int × Unit) × Unit → List Int × List (ByteArray × List Int × Unit) × Unit → Option (((List Int × List (ByteArray × List Int × Unit) × Unit) × Unit) × Unit)) (x0 : List (ByteArray × List Int × Unit)) (x1 : Int) (x2 : Int) (x3 : List Int × List (ByteArray × List Int × Unit) × Unit) (x4 : List Int × List (ByteArray × List Int × Unit) × Unit) : Option (((List Int × List (ByteArray × List Int × Unit) × Unit) × Unit) × Unit) := br (decide (x2 < x1)) (br (decide (0 ≤ x2) && decide (x2 < (↑(List.length x0) : Int))) (bindD (C_slices_Clone_int_int D (Prod.fst (Prod.snd (List.getD x0 (Int.toNat x2) (ByteArray.empty, [], ()))))) fun b ↦ br (decide (List.length (Prod.fst (Prod.snd x4)) + 1 ≤ bound)) (go x0 x1 (IntKind.wrap IntKind.i64 (x2 + 1)) x3 (Prod.fst x4, Prod.fst (Prod.snd x4) ++ [(Prod.fst (List.getD x0 (Int.toNat x2) (ByteArray.empty, [], ())), Prod.fst (Prod.fst b), ())], Prod.snd (Prod.snd x4))) none) none) (K0 x3 x4)
noncomputable def impl_copySkip_L0 (D : Den ctx) (n : Nat) (K0 : List Int × List (ByteArray × List Int × Unit) × Unit → List Int × List (ByteArray × List Int × Unit) × Unit → Option (((List Int × List (ByteArray × List Int × Unit) × Unit) × Unit) × Unit)) : Nat → (List (ByteArray × List Int × Unit)) → (Int) → (Int) → (List Int × List (ByteArray × List Int × Unit) × Unit) → (List Int × List (ByteArray × List Int × Unit) × Unit) → Option (((List Int × List (ByteArray × List Int × Unit) × Unit) × Unit) × Unit) | 0 => (fun x0 x1 x2 x3 x4 => none) | m + 1 => (fun x0 x1 x2 x3 x4 => impl_copySkip_b0 D n (impl_copySkip_L0 D n K0 m) K0 x0 x1 x2 x3 x4)
noncomputable def impl_copySkip_x0_0 (D : Den ctx) (n : Nat) (v0_0 : List Int × List (ByteArray × List Int × Unit) × Unit) (v0_1 : List Int × List (ByteArray × List Int × Unit) × Unit) : Option (((List Int × List (ByteArray × List Int × Unit) × Unit) × Unit) × Unit) := some (((Prod.fst v0_1, Prod.fst (Prod.snd v0_1), ()), ()), ())
noncomputable def impl_copySkip_LP0 (D : Den ctx) (n : Nat) : (List (ByteArray × List Int × Unit)) → (Int) → (Int) → (List Int × List (ByteArray × List Int × Unit) × Unit) → (List Int × List (ByteArray × List Int × Unit) × Unit) → Option (((List Int × List (ByteArray × List Int × Unit) × Unit) × Unit) × Unit) := (fun x0 x1 x2 x3 x4 => impl_copySkip_L0 D n (fun v0_0 v0_1 => impl_copySkip_x0_0 D n v0_0 v0_1) n x0 x1 x2 x3 x4)
noncomputable def impl_copySkip_e (D : Den ctx) (n : Nat) (lp0 : List (ByteArray × List Int × Unit) → Int → Int → List Int × List (ByteArray × List Int × Unit) × Unit → List Int × List (ByteArray × List Int × Unit) × Unit → Option (((List Int × List (ByteArray × List Int × Unit) × Unit) × Unit) × Unit)) (a0 : List Int × List (ByteArray × List Int × Unit) × Unit) : Option (((List Int × List (ByteArray × List Int × Unit) × Unit) × Unit) × Unit) := bindD (C_slices_Clone_int_int D (Prod.fst a0)) fun b ↦ lp0 (Prod.fst (Prod.snd a0)) (↑(List.length (Prod.fst (Prod.snd a0))) : Int) 0 ([], [], ()) (Prod.fst (Prod.fst b), [], ())
noncomputable def F_impl_copySkip (D : Den ctx) (n : Nat) (a0 : List Int × List (ByteArray × List Int × Unit) × Unit) : Option (((List Int × List (ByteArray × List Int × Unit) × Unit) × Unit) × Unit) := impl_copySkip_e D n (impl_copySkip_LP0 D n) a0
def impl_copySkip_Q0 (x0 : List (ByteArray × List Int × Unit)) (x1 : Int) (x2 : Int) (x3 : List Int × List (ByteArray × List Int × Unit) × Unit) (x4 : List Int × List (ByteArray × List Int × Unit) × Unit) : St := stq 30 [(2, AV.addr 2 []), (3, AV.addr 3 []), (11, AV.val (Ty.sl (Ty.pair Ty.str (Ty.pair (Ty.sl (Ty.int IntKind.i64)) Ty.unit))) x0), (12, AV.val (Ty.int IntKind.i64) x1), (13, AV.val (Ty.int IntKind.i64) x2)] [(2, Root.mk (Ty.pair (Ty.sl (Ty.int IntKind.i64)) (Ty.pair (Ty.sl (Ty.pair Ty.str (Ty.pair (Ty.sl (Ty.int IntKind.i64)) Ty.unit))) Ty.unit)) (Mk.pr (Mk.own 0 Mk.no) (Mk.pr (Mk.own 0 (Mk.pr Mk.no (Mk.pr (Mk.own 0 Mk.no) Mk.no))) Mk.no)) x3 true), (3, Root.mk (Ty.pair (Ty.sl (Ty.int IntKind.i64)) (Ty.pair (Ty.sl (Ty.pair Ty.str (Ty.pair (Ty.sl (Ty.int IntKind.i64)) Ty.unit))) Ty.unit)) (Mk.pr (Mk.own 0 Mk.no) (Mk.pr (Mk.own 0 (Mk.pr Mk.no (Mk.pr (Mk.own 0 Mk.no) Mk.no))) Mk.no)) x4 true)]
def impl_copySkip_Q0_0 (v0_0 : List Int × List (ByteArray × List Int × Unit) × Unit) (v0_1 : List Int × List (ByteArray × List Int × Unit) × Unit) : St := stq 30 [(2, AV.addr 2 []), (3, AV.addr 3 [])] [(2, Root.mk (Ty.pair (Ty.sl (Ty.int IntKind.i64)) (Ty.pair (Ty.sl (Ty.pair Ty.str (Ty.pair (Ty.sl (Ty.int IntKind.i64)) Ty.unit))) Ty.unit)) (Mk.pr (Mk.own 0 Mk.no) (Mk.pr (Mk.own 0 (Mk.pr Mk.no (Mk.pr (Mk.own 0 Mk.no) Mk.no))) Mk.no)) v0_0 true), (3, Root.mk (Ty.pair (Ty.sl (Ty.int IntKind.i64)) (Ty.pair (Ty.sl (Ty.pair Ty.str (Ty.pair (Ty.sl (Ty.int IntKind.i64)) Ty.unit))) Ty.unit)) (Mk.pr (Mk.own 0 Mk.no) (Mk.pr (Mk.own 0 (Mk.pr Mk.no (Mk.pr (Mk.own 0 Mk.no) Mk.no))) Mk.no)) v0_1 true)]
theorem impl_copySkip_SB0 (D : Den ctx) (n : Nat) (m : Nat) (K : Ex → St → Option (Out ctx 73)) (x0 : List (ByteArray × List Int × Unit)) (x1 : Int) (x2 : Int) (x3 : List Int × List (ByteArray × List Int × Unit) × Unit) (x4 : List Int × List (ByteArray × List Int × Unit) × Unit) :
  LQ funcTab D n 73 [.r, .r, .l, .r, .l] (m + 1) (impl_copySkip_Q0 x0 x1 x2 x3 x4) K = impl_copySkip_b0 D n (fun x0 x1 x2 x3 x4 => LQ funcTab D n 73 [.r, .r, .l, .r, .l] m (impl_copySkip_Q0 x0 x1 x2 x3 x4) K) (fun v0_0 v0_1 => K (Ex.exit 0) (impl_copySkip_Q0_0 v0_0 v0_1)) x0 x1 x2 x3 x4 := by kernel_rfl
theorem impl_copySkip_EL0 (D : Den ctx) (n : Nat) (K : Ex → St → Option (Out ctx 73)) : ∀ (m : Nat) (x0 : List (ByteArray × List Int × Unit)) (x1 : Int) (x2 : Int) (x3 : List Int × List (ByteArray × List Int × Unit) × Unit) (x4 : List Int × List (ByteArray × List Int × Unit) × Unit), LQ funcTab D n 73 [.r, .r, .l, .r, .l] m (impl_copySkip_Q0 x0 x1 x2 x3 x4) K = impl_copySkip_L0 D n (fun v0_0 v0_1 => K (Ex.exit 0) (impl_copySkip_Q0_0 v0_0 v0_1)) m x0 x1 x2 x3 x4
  | 0, x0, x1, x2, x3, x4 => LQ_zero ..
  | m + 1, x0, x1, x2, x3, x4 => by
    have ih : (fun x0 x1 x2 x3 x4 => LQ funcTab D n 73 [.r, .r, .l, .r, .l] m (impl_copySkip_Q0 x0 x1 x2 x3 x4) K) = impl_copySkip_L0 D n (fun v0_0 v0_1 => K (Ex.exit 0) (impl_copySkip_Q0_0 v0_0 v0_1)) m := by funext x0 x1 x2 x3 x4; exact impl_copySkip_EL0 D n K m x0 x1 x2 x3 x4
    rw [impl_copySkip_SB0]
    rw [ih]; rfl
theorem impl_copySkip_X0_0 (D : Den ctx) (n : Nat) (v0_0 : List Int × List (ByteArray × List Int × Unit) × Unit) (v0_1 : List Int × List (ByteArray × List Int × Unit) × Unit) :
  (CQ funcTab D n 73 [] [.r, .r, .l, .r, .l] (lastK funcTab 73)) (Ex.exit 0) (impl_copySkip_Q0_0 v0_0 v0_1) = impl_copySkip_x0_0 D n v0_0 v0_1 := by kernel_rfl
theorem impl_copySkip_ELP0 (D : Den ctx) (n : Nat) (x0 : List (ByteArray × List Int × Unit)) (x1 : Int) (x2 : Int) (x3 : List Int × List (ByteArray × List Int × Unit) × Unit) (x4 : List Int × List (ByteArray × List Int × Unit) × Unit) :
  LQ funcTab D n 73 [.r, .r, .l, .r, .l] n (impl_copySkip_Q0 x0 x1 x2 x3 x4) (CQ funcTab D n 73 [] [.r, .r, .l, .r, .l] (lastK funcTab 73)) = impl_copySkip_LP0 D n x0 x1 x2 x3 x4 := by
  rw [impl_copySkip_EL0]
  simp only [impl_copySkip_X0_0]
  rfl
theorem E_impl_copySkip (D : Den ctx) (n : Nat) (a0 : List Int × List (ByteArray × List Int × Unit) × Unit) : rfC funcTab D n 73 (a0, ()) = F_impl_copySkip D n a0 := by
  have h : rfC funcTab D n 73 (a0, ()) = impl_copySkip_e D n (fun x0 x1 x2 x3 x4 => LQ funcTab D n 73 [.r, .r, .l, .r, .l] n (impl_copySkip_Q0 x0 x1 x2 x3 x4) (CQ funcTab D n 73 [] [.r, .r, .l, .r, .l] (lastK funcTab 73))) a0 := by kernel_rfl
  rw [h]
  simp only [impl_copySkip_ELP0]
  rfl
end Go.G

namespace Go.G
set_option maxRecDepth 100000
set_option maxHeartbeats 0
open Go Go.V
noncomputable def impl_ahead_b1 (D : Den ctx) (n : Nat) (go : ByteArray → Int → Int → Int → List Int × List (ByteArray × List Int × Unit) × Unit → List Int → Option ((List Int × Int × Unit) × Unit)) (K0 : ByteArray → Int → Int → Int → List Int × List (ByteArray × List Int × Unit) × Unit → List Int → Option ((List Int × Int × Unit) × Unit)) (x1_0 : ByteArray) (x1_1 : Int) (x1_2 : Int) (x1_3 : Int) (x1_4 : List Int × List (ByteArray × List Int × Unit) × Unit) (x1_5 : List Int) : Option ((List Int × Int × Unit) × Unit) := bindD (C_impl_Skip_after D x1_4 x1_2 x1_3) fun b ↦ br (decide (Prod.fst (Prod.fst b) = -1)) (K0 x1_0 x1_1 x1_2 x1_3 x1_4 x1_5) (br (decide (0 ≤ Prod.fst (Prod.fst b)) && decide (Prod.fst (Prod.fst b) < (↑(List.length (Prod.fst (Prod.snd x1_4))) : Int))) (br (!Op.bytesLess (ByteArray.toList (Prod.fst (List.getD (Prod.fst (Prod.snd x1_4)) (Int.toNat (Prod.fst (Prod.fst b))) (ByteArray.empty, [], ())))) (ByteArray.toList x1_0)) (K0 x1_0 (IntKind.wrap IntKind.i64 (x1_1 + 1)) x1_2 x1_3 x1_4 x1_5) (go x1_0 (IntKind.wrap IntKind.i64 (x1_1 + 1)) (Prod.fst (Prod.fst b)) x1_3 x1_4 x1_5)) none)
noncomputable def impl_ahead_L1 (D : Den ctx) (n : Nat) (K0 : ByteArray → Int → Int → Int → List Int × List (ByteArray × List Int × Unit) × Unit → List Int → Option ((List Int × Int × Unit) × Unit)) : Nat → (ByteArray) → (Int) → (Int) → (Int) → (List Int × List (ByteArray × List Int × Unit) × Unit) → (List Int) → Option ((List Int × Int × Unit) × Unit) | 0 => (fun x1_0 x1_1 x1_2 x1_3 x1_4 x1_5 => none) | m + 1 => (fun x1_0 x1_1 x1_2 x1_3 x1_4 x1_5 => impl_ahead_b1 D n (impl_ahead_L1 D n K0 m) K0 x1_0 x1_1 x1_2 x1_3 x1_4 x1_5)
noncomputable def impl_ahead_x1_0 (D : Den ctx) (n : Nat) (go : ByteArray → Int → Int → Int → List Int × List (ByteArray × List Int × Unit) × Unit → List Int → Option ((List Int × Int × Unit) × Unit)) (K0 : Int → List Int → Option ((List Int × Int × Unit) × Unit)) (v0_0 : ByteArray) (v0_1 : Int) (v0_2 : Int) (v0_3 : Int) (v0_4 : List Int × List (ByteArray × List Int × Unit) × Unit) (v0_5 : List Int) : Option ((List Int × Int × Unit) × Unit) := br (decide (0 ≤ v0_3) && decide (v0_3 < (↑(List.length v0_5) : Int))) (go v0_0 v0_1 v0_2 (IntKind.wrap IntKind.i64 (v0_3 - 1)) v0_4 (List.set v0_5 (Int.toNat v0_3) v0_2)) none
noncomputable def impl_ahead_LP1 (D : Den ctx) (n : Nat) (go : ByteArray → Int → Int → Int → List Int × List (ByteArray × List Int × Unit) × Unit → List Int → Option ((List Int × Int × Unit) × Unit)) (K0 : Int → List Int → Option ((List Int × Int × Unit) × Unit)) : (ByteArray) → (Int) → (Int) → (Int) → (List Int × List (ByteArray × List Int × Unit) × Unit) → (List Int) → Option ((List Int × Int × Unit) × Unit) := (fun x1_0 x1_1 x1_2 x1_3 x1_4 x1_5 => impl_ahead_L1 D n (fun v0_0 v0_1 v0_2 v0_3 v0_4 v0_5 => impl_ahead_x1_0 D n go K0 v0_0 v0_1 v0_2 v0_3 v0_4 v0_5) n x1_0 x1_1 x1_2 x1_3 x1_4 x1_5)
noncomputable def impl_ahead_b0 (D : Den ctx) (n : Nat) (go : ByteArray → Int → Int → Int → List Int × List (ByteArray × List Int × Unit) × Unit → List Int → Option ((List Int × Int × Unit) × Unit)) (K0 : Int → List Int → Option ((List Int × Int × Unit) × Unit)) (lp1 : ByteArray → Int → Int → Int → List Int × List (ByteArray × List Int × Unit) × Unit → List Int → Option ((List Int × Int × Unit) × Unit)) (x0 : ByteArray) (x1 : Int) (x2 : Int) (x3 : Int) (x4 : List Int × List (ByteArray × List Int × Unit) × Unit) (x5 : List Int) : Option ((List Int × Int × Unit) × Unit) := br (decide (x3 ≥ 0)) (lp1 x0 x1 x2 x3 x4 x5) (K0 x1 x5)
noncomputable def impl_ahead_L0 (D : Den ctx) (n : Nat) (K0 : Int → List Int → Option ((List Int × Int × Unit) × Unit)) : Nat → (ByteArray) → (Int) → (Int) → (Int) → (List Int × List (ByteArray × List Int × Unit) × Unit) → (List Int) → Option ((List Int × Int × Unit) × Unit) | 0 => (fun x0 x1 x2 x3 x4 x5 => none) | m + 1 => (fun x0 x1 x2 x3 x4 x5 => impl_ahead_b0 D n (impl_ahead_L0 D n K0 m) K0 (impl_ahead_LP1 D n (impl_ahead_L0 D n K0 m) K0) x0 x1 x2 x3 x4 x5)
noncomputable def impl_ahead_x0_0 (D : Den ctx) (n : Nat) (v0_0 : Int) (v0_1 : List Int) : Option ((List Int × Int × Unit) × Unit) := some ((v0_1, v0_0, ()), ())
noncomputable def impl_ahead_LP0 (D : Den ctx) (n : Nat) : (ByteArray) → (Int) → (Int) → (Int) → (List Int × List (ByteArray × List Int × Unit) × Unit) → (List Int) → Option ((List Int × Int × Unit) × Unit) := (fun x0 x1 x2 x3 x4 x5 => impl_ahead_L0 D n (fun v0_0 v0_1 => impl_ahead_x0_0 D n v0_0 v0_1) n x0 x1 x2 x3 x4 x5)
noncomputable def impl_ahead_e (D : Den ctx) (n : Nat) (lp0 : ByteArray → Int → Int → Int → List Int × List (ByteArray × List Int × Unit) × Unit → List Int → Option ((List Int × Int × Unit) × Unit)) (a0 : List Int × List (ByteArray × List Int × Unit) × Unit) (a1 : ByteArray) : Option ((List Int × Int × Unit) × Unit) := lp0 a1 0 (-1) 3 a0 (List.replicate (Int.toNat 4) 0)
noncomputable def F_impl_ahead (D : Den ctx) (n : Nat) (a0 : List Int × List (ByteArray × List Int × Unit) × Unit) (a1 : ByteArray) : Option ((List Int × Int × Unit) × Unit) := impl_ahead_e D n (impl_ahead_LP0 D n) a0 a1
def impl_ahead_Q0 (x0 : ByteArray) (x1 : Int) (x2 : Int) (x3 : Int) (x4 : List Int × List (ByteArray × List Int × Unit) × Unit) (x5 : List Int) : St := stq 39 [(1, AV.val Ty.str x0), (2, AV.addr 2 []), (6, AV.brw 6 [] 0), (7, AV.val (Ty.int IntKind.i64) x1), (8, AV.val (Ty.int IntKind.i64) x2), (9, AV.val (Ty.int IntKind.i64) x3)] [(2, Root.mk (Ty.pair (Ty.sl (Ty.int IntKind.i64)) (Ty.pair (Ty.sl (Ty.pair Ty.str (Ty.pair (Ty.sl (Ty.int IntKind.i64)) Ty.unit))) Ty.unit)) Mk.no x4 true), (6, Root.mk (Ty.sl (Ty.int IntKind.i64)) (Mk.own 0 Mk.no) x5 false)]
def impl_ahead_Q0_0 (v0_0 : Int) (v0_1 : List Int) : St := stq 39 [(6, AV.brw 6 [] 0), (7, AV.val (Ty.int IntKind.i64) v0_0)] [(6, Root.mk (Ty.sl (Ty.int IntKind.i64)) (Mk.own 0 Mk.no) v0_1 false)]
def impl_ahead_Q1 (x1_0 : ByteArray) (x1_1 : Int) (x1_2 : Int) (x1_3 : Int) (x1_4 : List Int × List (ByteArray × List Int × Unit) × Unit) (x1_5 : List Int) : St := stq 39 [(1, AV.val Ty.str x1_0), (2, AV.addr 2 []), (6, AV.brw 6 [] 0), (7, AV.val (Ty.int IntKind.i64) x1_1), (8, AV.val (Ty.int IntKind.i64) x1_2), (9, AV.val (Ty.int IntKind.i64) x1_3)] [(2, Root.mk (Ty.pair (Ty.sl (Ty.int IntKind.i64)) (Ty.pair (Ty.sl (Ty.pair Ty.str (Ty.pair (Ty.sl (Ty.int IntKind.i64)) Ty.unit))) Ty.unit)) Mk.no x1_4 true), (6, Root.mk (Ty.sl (Ty.int IntKind.i64)) (Mk.own 0 Mk.no) x1_5 false)]
def impl_ahead_Q1_0 (v0_0 : ByteArray) (v0_1 : Int) (v0_2 : Int) (v0_3 : Int) (v0_4 : List Int × List (ByteArray × List Int × Unit) × Unit) (v0_5 : List Int) : St := stq 39 [(1, AV.val Ty.str v0_0), (2, AV.addr 2 []), (6, AV.brw 6 [] 0), (7, AV.val (Ty.int IntKind.i64) v0_1), (8, AV.val (Ty.int IntKind.i64) v0_2), (9, AV.val (Ty.int IntKind.i64) v0_3)] [(2, Root.mk (Ty.pair (Ty.sl (Ty.int IntKind.i64)) (Ty.pair (Ty.sl (Ty.pair Ty.str (Ty.pair (Ty.sl (Ty.int IntKind.i64)) Ty.unit))) Ty.unit)) Mk.no v0_4 true), (6, Root.mk (Ty.sl (Ty.int IntKind.i64)) (Mk.own 0 Mk.no) v0_5 false)]
theorem impl_ahead_SB1 (D : Den ctx) (n : Nat) (m : Nat) (K : Ex → St → Option (Out ctx 74)) (x1_0 : ByteArray) (x1_1 : Int) (x1_2 : Int) (x1_3 : Int) (x1_4 : List Int × List (ByteArray × List Int × Unit) × Unit) (x1_5 : List Int) :
  LQ funcTab D n 74 [.r, .r, .r, .r, .l, .r, .l, .l, .r, .l, .l, .l, .l] (m + 1) (impl_ahead_Q1 x1_0 x1_1 x1_2 x1_3 x1_4 x1_5) K = impl_ahead_b1 D n (fun x1_0 x1_1 x1_2 x1_3 x1_4 x1_5 => LQ funcTab D n 74 [.r, .r, .r, .r, .l, .r, .l, .l, .r, .l, .l, .l, .l] m (impl_ahead_Q1 x1_0 x1_1 x1_2 x1_3 x1_4 x1_5) K) (fun v0_0 v0_1 v0_2 v0_3 v0_4 v0_5 => K (Ex.exit 2) (impl_ahead_Q1_0 v0_0 v0_1 v0_2 v0_3 v0_4 v0_5)) x1_0 x1_1 x1_2 x1_3 x1_4 x1_5 := by kernel_rfl
theorem impl_ahead_EL1 (D : Den ctx) (n : Nat) (K : Ex → St → Option (Out ctx 74)) : ∀ (m : Nat) (x1_0 : ByteArray) (x1_1 : Int) (x1_2 : Int) (x1_3 : Int) (x1_4 : List Int × List (ByteArray × List Int × Unit) × Unit) (x1_5 : List Int), LQ funcTab D n 74 [.r, .r, .r, .r, .l, .r, .l, .l, .r, .l, .l, .l, .l] m (impl_ahead_Q1 x1_0 x1_1 x1_2 x1_3 x1_4 x1_5) K = impl_ahead_L1 D n (fun v0_0 v0_1 v0_2 v0_3 v0_4 v0_5 => K (Ex.exit 2) (impl_ahead_Q1_0 v0_0 v0_1 v0_2 v0_3 v0_4 v0_5)) m x1_0 x1_1 x1_2 x1_3 x1_4 x1_5
  | 0, x1_0, x1_1, x1_2, x1_3, x1_4, x1_5 => LQ_zero ..
  | m + 1, x1_0, x1_1, x1_2, x1_3, x1_4, x1_5 => by
    have ih : (fun x1_0 x1_1 x1_2 x1_3 x1_4 x1_5 => LQ funcTab D n 74 [.r, .r, .r, .r, .l, .r, .l, .l, .r, .l, .l, .l, .l] m (impl_ahead_Q1 x1_0 x1_1 x1_2 x1_3 x1_4 x1_5) K) = impl_ahead_L1 D n (fun v0_0 v0_1 v0_2 v0_3 v0_4 v0_5 => K (Ex.exit 2) (impl_ahead_Q1_0 v0_0 v0_1 v0_2 v0_3 v0_4 v0_5)) m := by funext x1_0 x1_1 x1_2 x1_3 x1_4 x1_5; exact impl_ahead_EL1 D n K m x1_0 x1_1 x1_2 x1_3 x1_4 x1_5
    rw [impl_ahead_SB1]
    rw [ih]; rfl
theorem impl_ahead_X1_0 (D : Den ctx) (n : Nat) (m : Nat) (K : Ex → St → Option (Out ctx 74)) (v0_0 : ByteArray) (v0_1 : Int) (v0_2 : Int) (v0_3 : Int) (v0_4 : List Int × List (ByteArray × List Int × Unit) × Unit) (v0_5 : List Int) :
  (CQ funcTab D n 74 [.r, .r, .r, .r, .l, .r, .l, .l] [.r, .l, .l, .l, .l] (LK funcTab D n 74 [.r, .r, .r, .r, .l, .r, .l] m K)) (Ex.exit 2) (impl_ahead_Q1_0 v0_0 v0_1 v0_2 v0_3 v0_4 v0_5) = impl_ahead_x1_0 D n (fun x0 x1 x2 x3 x4 x5 => LQ funcTab D n 74 [.r, .r, .r, .r, .l, .r, .l] m (impl_ahead_Q0 x0 x1 x2 x3 x4 x5) K) (fun v0_0 v0_1 => K (Ex.exit 0) (impl_ahead_Q0_0 v0_0 v0_1)) v0_0 v0_1 v0_2 v0_3 v0_4 v0_5 := by kernel_rfl
theorem impl_ahead_ELP1 (D : Den ctx) (n : Nat) (m : Nat) (K : Ex → St → Option (Out ctx 74)) (x1_0 : ByteArray) (x1_1 : Int) (x1_2 : Int) (x1_3 : Int) (x1_4 : List Int × List (ByteArray × List Int × Unit) × Unit) (x1_5 : List Int) :
  LQ funcTab D n 74 [.r, .r, .r, .r, .l, .r, .l, .l, .r, .l, .l, .l, .l] n (impl_ahead_Q1 x1_0 x1_1 x1_2 x1_3 x1_4 x1_5) (CQ funcTab D n 74 [.r, .r, .r, .r, .l, .r, .l, .l] [.r, .l, .l, .l, .l] (LK funcTab D n 74 [.r, .r, .r, .r, .l, .r, .l] m K)) = impl_ahead_LP1 D n (fun x0 x1 x2 x3 x4 x5 => LQ funcTab D n 74 [.r, .r, .r, .r, .l, .r, .l] m (impl_ahead_Q0 x0 x1 x2 x3 x4 x5) K) (fun v0_0 v0_1 => K (Ex.exit 0) (impl_ahead_Q0_0 v0_0 v0_1)) x1_0 x1_1 x1_2 x1_3 x1_4 x1_5 := by
  rw [impl_ahead_EL1]
  simp only [impl_ahead_X1_0]
  rfl
theorem impl_ahead_SB0 (D : Den ctx) (n : Nat) (m : Nat) (K : Ex → St → Option (Out ctx 74)) (x0 : ByteArray) (x1 : Int) (x2 : Int) (x3 : Int) (x4 : List Int × List (ByteArray × List Int × Unit) × Unit) (x5 : List Int) :
  LQ funcTab D n 74 [.r, .r, .r, .r, .l, .r, .l] (m + 1) (impl_ahead_Q0 x0 x1 x2 x3 x4 x5) K = impl_ahead_b0 D n (fun x0 x1 x2 x3 x4 x5 => LQ funcTab D n 74 [.r, .r, .r, .r, .l, .r, .l] m (impl_ahead_Q0 x0 x1 x2 x3 x4 x5) K) (fun v0_0 v0_1 => K (Ex.exit 0) (impl_ahead_Q0_0 v0_0 v0_1)) (fun x1_0 x1_1 x1_2 x1_3 x1_4 x1_5 => LQ funcTab D n 74 [.r, .r, .r, .r, .l, .r, .l, .l, .r, .l, .l, .l, .l] n (impl_ahead_Q1 x1_0 x1_1 x1_2 x1_3 x1_4 x1_5) (CQ funcTab D n 74 [.r, .r, .r, .r, .l, .r, .l, .l] [.r, .l, .l, .l, .l] (LK funcTab D n 74 [.r, .r, .r, .r, .l, .r, .l] m K))) x0 x1 x2 x3 x4 x5 := by kernel_rfl
theorem impl_ahead_EL0 (D : Den ctx) (n : Nat) (K : Ex → St → Option (Out ctx 74)) : ∀ (m : Nat) (x0 : ByteArray) (x1 : Int) (x2 : Int) (x3 : Int) (x4 : List Int × List (ByteArray × List Int × Unit) × Unit) (x5 : List Int), LQ funcTab D n 74 [.r, .r, .r, .r, .l, .r, .l] m (impl_ahead_Q0 x0 x1 x2 x3 x4 x5) K = impl_ahead_L0 D n (fun v0_0 v0_1 => K (Ex.exit 0) (impl_ahead_Q0_0 v0_0 v0_1)) m x0 x1 x2 x3 x4 x5
  | 0, x0, x1, x2, x3, x4, x5 => LQ_zero ..
  | m + 1, x0, x1, x2, x3, x4, x5 => by
    have ih : (fun x0 x1 x2 x3 x4 x5 => LQ funcTab D n 74 [.r, .r, .r, .r, .l, .r, .l] m (impl_ahead_Q0 x0 x1 x2 x3 x4 x5) K) = impl_ahead_L0 D n (fun v0_0 v0_1 => K (Ex.exit 0) (impl_ahead_Q0_0 v0_0 v0_1)) m := by funext x0 x1 x2 x3 x4 x5; exact impl_ahead_EL0 D n K m x0 x1 x2 x3 x4 x5
    rw [impl_ahead_SB0]
    simp only [impl_ahead_ELP1]
    rw [ih]; rfl
theorem impl_ahead_X0_0 (D : Den ctx) (n : Nat) (v0_0 : Int) (v0_1 : List Int) :
  (CQ funcTab D n 74 [] [.r, .r, .r, .r, .l, .r, .l] (lastK funcTab 74)) (Ex.exit 0) (impl_ahead_Q0_0 v0_0 v0_1) = impl_ahead_x0_0 D n v0_0 v0_1 := by kernel_rfl
theorem impl_ahead_ELP0 (D : Den ctx) (n : Nat) (x0 : ByteArray) (x1 : Int) (x2 : Int) (x3 : Int) (x4 : List Int × List (ByteArray × List Int × Unit) × Unit) (x5 : List Int) :
  LQ funcTab D n 74 [.r, .r, .r, .r, .l, .r, .l] n (impl_ahead_Q0 x0 x1 x2 x3 x4 x5) (CQ funcTab D n 74 [] [.r, .r, .r, .r, .l, .r, .l] (lastK funcTab 74)) = impl_ahead_LP0 D n x0 x1 x2 x3 x4 x5 := by
  rw [impl_ahead_EL0]
  simp only [impl_ahead_X0_0]
  rfl
theorem E_impl_ahead (D : Den ctx) (n : Nat) (a0 : List Int × List (ByteArray × List Int × Unit) × Unit) (a1 : ByteArray) : rfC funcTab D n 74 (a0, (a1, ())) = F_impl_ahead D n a0 a1 := by
  have h : rfC funcTab D n 74 (a0, (a1, ())) = impl_ahead_e D n (fun x0 x1 x2 x3 x4 x5 => LQ funcTab D n 74 [.r, .r, .r, .r, .l, .r, .l] n (impl_ahead_Q0 x0 x1 x2 x3 x4 x5) (CQ funcTab D n 74 [] [.r, .r, .r, .r, .l, .r, .l] (lastK funcTab 74))) a0 a1 := by kernel_rfl
  rw [h]
  simp only [impl_ahead_ELP0]
  rfl
end Go.G

namespace Go.G
set_option maxRecDepth 100000
set_option maxHeartbeats 0
open Go Go.V
noncomputable def impl_Skip_after_e (D : Den ctx) (n : Nat) (a0 : List Int × List (ByteArray × List Int × Unit) × Unit) (a1 : Int) (a2 : Int) : Option ((Int × Unit) × Unit) := br (decide (a1 = -1)) (br (decide (0 ≤ a2) && decide (a2 < (↑(List.length (Prod.fst a0)) : Int))) (some ((List.getD (Prod.fst a0) (Int.toNat a2) 0, ()), ())) none) (br (decide (0 ≤ a1) && decide (a1 < (↑(List.length (Prod.fst (Prod.snd a0))) : Int))) (br (decide (0 ≤ a2) && decide (a2 < (↑(List.length (Prod.fst (Prod.snd (List.getD (Prod.fst (Prod.snd a0)) (Int.toNat a1) (ByteArray.empty, [], ()))))) : Int))) (some ((List.getD (Prod.fst (Prod.snd (List.getD (Prod.fst (Prod.snd a0)) (Int.toNat a1) (ByteArray.empty, [], ())))) (Int.toNat a2) 0, ()), ())) none) none)
noncomputable def F_impl_Skip_after (D : Den ctx) (n : Nat) (a0 : List Int × List (ByteArray × List Int × Unit) × Unit) (a1 : Int) (a2 : Int) : Option ((Int × Unit) × Unit) := impl_Skip_after_e D n a0 a1 a2
theorem E_impl_Skip_after (D : Den ctx) (n : Nat) (a0 : List Int × List (ByteArray × List Int × Unit) × Unit) (a1 : Int) (a2 : Int) : rfC funcTab D n 75 (a0, (a1, (a2, ()))) = F_impl_Skip_after D n a0 a1 a2 := by kernel_rfl
end Go.G

namespace Go.G
set_option maxRecDepth 100000
set_option maxHeartbeats 0
open Go Go.V
noncomputable def impl_Skip_link_e (D : Den ctx) (n : Nat) (a0 : List Int × List (ByteArray × List Int × Unit) × Unit) (a1 : Int) (a2 : Int) (a3 : Int) : Option (Unit × (List Int × List (ByteArray × List Int × Unit) × Unit) × Unit) := br (decide (a1 = -1)) (br (decide (0 ≤ a2) && decide (a2 < (↑(List.length (Prod.fst a0)) : Int))) (some ((), (List.set (Prod.fst a0) (Int.toNat a2) a3, Prod.snd a0), ())) none) (br (decide (0 ≤ a1) && decide (a1 < (↑(List.length (Prod.fst (Prod.snd a0))) : Int))) (br (decide (0 ≤ a2) && decide (a2 < (↑(List.length (Prod.fst (Prod.snd (List.getD (Prod.fst (Prod.snd a0)) (Int.toNat a1) (ByteArray.empty, [], ()))))) : Int))) (some ((), (Prod.fst a0, List.set (Prod.fst (Prod.snd a0)) (Int.toNat a1) (Prod.fst (List.getD (Prod.fst (Prod.snd a0)) (Int.toNat a1) (ByteArray.empty, [], ())), List.set (Prod.fst (Prod.snd (List.getD (Prod.fst (Prod.snd a0)) (Int.toNat a1) (ByteArray.empty, [], ())))) (Int.toNat a2) a3, Prod.snd (Prod.snd (List.getD (Prod.fst (Prod.snd a0)) (Int.toNat a1) (ByteArray.empty, [], ())))), Prod.snd (Prod.snd a0)), ())) none) none)
noncomputable def F_impl_Skip_link (D : Den ctx) (n : Nat) (a0 : List Int × List (ByteArray × List Int × Unit) × Unit) (a1 : Int) (a2 : Int) (a3 : Int) : Option (Unit × (List Int × List (ByteArray × List Int × Unit) × Unit) × Unit) := impl_Skip_link_e D n a0 a1 a2 a3
theorem E_impl_Skip_link (D : Den ctx) (n : Nat) (a0 : List Int × List (ByteArray × List Int × Unit) × Unit) (a1 : Int) (a2 : Int) (a3 : Int) : rfC funcTab D n 76 (a0, (a1, (a2, (a3, ())))) = F_impl_Skip_link D n a0 a1 a2 a3 := by kernel_rfl
end Go.G

namespace Go.G
set_option maxRecDepth 100000
set_option maxHeartbeats 0
open Go Go.V
noncomputable def laws_szIntS_e (D : Den ctx) (n : Nat) (a0 : List Int) (a1 : Int) : Option ((Int × Unit) × Unit) := br (decide (IntKind.wrap IntKind.i64 (a1 - (↑(List.length a0) : Int)) < 0)) (some ((-1, ()), ())) (some ((IntKind.wrap IntKind.i64 (a1 - (↑(List.length a0) : Int)), ()), ()))
noncomputable def F_laws_szIntS (D : Den ctx) (n : Nat) (a0 : List Int) (a1 : Int) : Option ((Int × Unit) × Unit) := laws_szIntS_e D n a0 a1
theorem E_laws_szIntS (D : Den ctx) (n : Nat) (a0 : List Int) (a1 : Int) : rfC funcTab D n 77 (a0, (a1, ())) = F_laws_szIntS D n a0 a1 := by kernel_rfl
end Go.G

namespace Go.G
set_option maxRecDepth 100000
set_option maxHeartbeats 0
open Go Go.V
noncomputable def laws_szLaneS_b0 (D : Den ctx) (n : Nat) (go : List (ByteArray × List Int × Unit) → Int → Int → Option ((Int × Unit) × Unit)) (K0 : Int → Int → Option ((Int × Unit) × Unit)) (K1 : Int → Option ((Int × Unit) × Unit)) (x0 : List (ByteArray × List Int × Unit)) (x1 : Int) (x2 : Int) : Option ((Int × Unit) × Unit) := br (decide (x2 < (↑(List.length x0) : Int))) (br (decide (0 ≤ x2) && decide (x2 < (↑(List.length x0) : Int))) (bindD (C_laws_szLane D (List.getD x0 (Int.toNat x2) (ByteArray.empty, [], ())) x1) fun b ↦ br (decide (Prod.fst (Prod.fst b) < 0)) (K0 (Prod.fst (Prod.fst b)) (-1)) (go x0 (Prod.fst (Prod.fst b)) (IntKind.wrap IntKind.i64 (x2 + 1)))) none) (K1 x1)
noncomputable def laws_szLaneS_L0 (D : Den ctx) (n : Nat) (K0 : Int → Int → Option ((Int × Unit) × Unit)) (K1 : Int → Option ((Int × Unit) × Unit)) : Nat → (List (ByteArray × List Int × Unit)) → (Int) → (Int) → Option ((Int × Unit) × Unit) | 0 => (fun x0 x1 x2 => none) | m + 1 => (fun x0 x1 x2 => laws_szLaneS_b0 D n (laws_szLaneS_L0 D n K0 K1 m) K0 K1 x0 x1 x2)
noncomputable def laws_szLaneS_x0_0 (D : Den ctx) (n : Nat) (v0_0 : Int) (v0_1 : Int) : Option ((Int × Unit) × Unit) := some ((v0_1, ()), ())
noncomputable def laws_szLaneS_x0_1 (D : Den ctx) (n : Nat) (v1_0 : Int) : Option ((Int × Unit) × Unit) := some ((v1_0, ()), ())
noncomputable def laws_szLaneS_LP0 (D : Den ctx) (n : Nat) : (List (ByteArray × List Int × Unit)) → (Int) → (Int) → Option ((Int × Unit) × Unit) := (fun x0 x1 x2 => laws_szLaneS_L0 D n (fun v0_0 v0_1 => laws_szLaneS_x0_0 D n v0_0 v0_1) (fun v1_0 => laws_szLaneS_x0_1 D n v1_0) n x0 x1 x2)
noncomputable def laws_szLaneS_e (D : Den ctx) (n : Nat) (lp0 : List (ByteArray × List Int × Unit) → Int → Int → Option ((Int × Unit) × Unit)) (a0 : List (ByteArray × List Int × Unit)) (a1 : Int) : Option ((Int × Unit) × Unit) := br (decide (IntKind.wrap IntKind.i64 (a1 - (↑(List.length a0) : Int)) < 0)) (some ((-1, ()), ())) (lp0 a0 (IntKind.wrap IntKind.i64 (a1 - (↑(List.length a0) : Int))) 0)
noncomputable def F_laws_szLaneS (D : Den ctx) (n : Nat) (a0 : List (ByteArray × List Int × Unit)) (a1 : Int) : Option ((Int × Unit) × Unit) := laws_szLaneS_e D n (laws_szLaneS_LP0 D n) a0 a1
def laws_szLaneS_Q0 (x0 : List (ByteArray × List Int × Unit)) (x1 : Int) (x2 : Int) : St := stq 27 [(0, AV.val (Ty.sl (Ty.pair Ty.str (Ty.pair (Ty.sl (Ty.int IntKind.i64)) Ty.unit))) x0), (1, AV.val (Ty.int IntKind.i64) x1), (5, AV.val (Ty.int IntKind.i64) x2)] []
def laws_szLaneS_Q0_0 (v0_0 : Int) (v0_1 : Int) : St := stq 27 [(1, AV.val (Ty.int IntKind.i64) v0_0), (4, AV.val (Ty.int IntKind.i64) v0_1)] []
def laws_szLaneS_Q0_1 (v1_0 : Int) : St := stq 27 [(1, AV.val (Ty.int IntKind.i64) v1_0)] []
theorem laws_szLaneS_SB0 (D : Den ctx) (n : Nat) (m : Nat) (K : Ex → St → Option (Out ctx 78)) (x0 : List (ByteArray × List Int × Unit)) (x1 : Int) (x2 : Int) :
  LQ funcTab D n 78 [.r, .r, .r, .l, .r, .l] (m + 1) (laws_szLaneS_Q0 x0 x1 x2) K = laws_szLaneS_b0 D n (fun x0 x1 x2 => LQ funcTab D n 78 [.r, .r, .r, .l, .r, .l] m (laws_szLaneS_Q0 x0 x1 x2) K) (fun v0_0 v0_1 => K (Ex.ret) (laws_szLaneS_Q0_0 v0_0 v0_1)) (fun v1_0 => K (Ex.exit 0) (laws_szLaneS_Q0_1 v1_0)) x0 x1 x2 := by kernel_rfl
theorem laws_szLaneS_EL0 (D : Den ctx) (n : Nat) (K : Ex → St → Option (Out ctx 78)) : ∀ (m : Nat) (x0 : List (ByteArray × List Int × Unit)) (x1 : Int) (x2 : Int), LQ funcTab D n 78 [.r, .r, .r, .l, .r, .l] m (laws_szLaneS_Q0 x0 x1 x2) K = laws_szLaneS_L0 D n (fun v0_0 v0_1 => K (Ex.ret) (laws_szLaneS_Q0_0 v0_0 v0_1)) (fun v1_0 => K (Ex.exit 0) (laws_szLaneS_Q0_1 v1_0)) m x0 x1 x2
  | 0, x0, x1, x2 => LQ_zero ..
  | m + 1, x0, x1, x2 => by
    have ih : (fun x0 x1 x2 => LQ funcTab D n 78 [.r, .r, .r, .l, .r, .l] m (laws_szLaneS_Q0 x0 x1 x2) K) = laws_szLaneS_L0 D n (fun v0_0 v0_1 => K (Ex.ret) (laws_szLaneS_Q0_0 v0_0 v0_1)) (fun v1_0 => K (Ex.exit 0) (laws_szLaneS_Q0_1 v1_0)) m := by funext x0 x1 x2; exact laws_szLaneS_EL0 D n K m x0 x1 x2
    rw [laws_szLaneS_SB0]
    rw [ih]; rfl
theorem laws_szLaneS_X0_0 (D : Den ctx) (n : Nat) (v0_0 : Int) (v0_1 : Int) :
  (CQ funcTab D n 78 [] [.r, .r, .r, .l, .r, .l] (lastK funcTab 78)) (Ex.ret) (laws_szLaneS_Q0_0 v0_0 v0_1) = laws_szLaneS_x0_0 D n v0_0 v0_1 := by kernel_rfl
theorem laws_szLaneS_X0_1 (D : Den ctx) (n : Nat) (v1_0 : Int) :
  (CQ funcTab D n 78 [] [.r, .r, .r, .l, .r, .l] (lastK funcTab 78)) (Ex.exit 0) (laws_szLaneS_Q0_1 v1_0) = laws_szLaneS_x0_1 D n v1_0 := by kernel_rfl
theorem laws_szLaneS_ELP0 (D : Den ctx) (n : Nat) (x0 : List (ByteArray × List Int × Unit)) (x1 : Int) (x2 : Int) :
  LQ funcTab D n 78 [.r, .r, .r, .l, .r, .l] n (laws_szLaneS_Q0 x0 x1 x2) (CQ funcTab D n 78 [] [.r, .r, .r, .l, .r, .l] (lastK funcTab 78)) = laws_szLaneS_LP0 D n x0 x1 x2 := by
  rw [laws_szLaneS_EL0]
  simp only [laws_szLaneS_X0_0, laws_szLaneS_X0_1]
  rfl
theorem E_laws_szLaneS (D : Den ctx) (n : Nat) (a0 : List (ByteArray × List Int × Unit)) (a1 : Int) : rfC funcTab D n 78 (a0, (a1, ())) = F_laws_szLaneS D n a0 a1 := by
  have h : rfC funcTab D n 78 (a0, (a1, ())) = laws_szLaneS_e D n (fun x0 x1 x2 => LQ funcTab D n 78 [.r, .r, .r, .l, .r, .l] n (laws_szLaneS_Q0 x0 x1 x2) (CQ funcTab D n 78 [] [.r, .r, .r, .l, .r, .l] (lastK funcTab 78))) a0 a1 := by kernel_rfl
  rw [h]
  simp only [laws_szLaneS_ELP0]
  rfl
end Go.G


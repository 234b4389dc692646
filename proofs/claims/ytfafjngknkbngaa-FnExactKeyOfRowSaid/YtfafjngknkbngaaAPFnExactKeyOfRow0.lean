import Derived.Test.YtfafjngknkbngaaAV4
set_option linter.unusedVariables false
set_option linter.unusedSimpArgs false
set_option linter.unusedSectionVars false
namespace Go.G
open Go Go.V
noncomputable def C_laws_FnExactKeyOfRow (D : Den ctx) (a0 : List (ByteArray × Int × Bool × Unit) × List Int × List (ByteArray × List Int × Bool × Unit) × Unit) (a1 : List (Int × Int × ByteArray × Unit)) : Option ((Bool × Unit) × Unit) := D 5 (a0, (a1, ()))
noncomputable def C_laws_szSchema (D : Den ctx) (a0 : List (ByteArray × Int × Bool × Unit) × List Int × List (ByteArray × List Int × Bool × Unit) × Unit) (a1 : Int) : Option ((Int × Unit) × Unit) := D 15 (a0, (a1, ()))
noncomputable def C_spec_SchemaOk (D : Den ctx) (a0 : List (ByteArray × Int × Bool × Unit) × List Int × List (ByteArray × List Int × Bool × Unit) × Unit) : Option ((Bool × Unit) × Unit) := D 16 (a0, ())
noncomputable def C_laws_toSchema (D : Den ctx) (a0 : List (ByteArray × Int × Bool × Unit) × List Int × List (ByteArray × List Int × Bool × Unit) × Unit) : Option (((List (ByteArray × Int × Bool × Unit) × List Int × List (ByteArray × List Int × Bool × Unit) × Unit) × Unit) × Unit) := D 17 (a0, ())
noncomputable def C_impl_SchemaOk (D : Den ctx) (a0 : List (ByteArray × Int × Bool × Unit) × List Int × List (ByteArray × List Int × Bool × Unit) × Unit) : Option ((Bool × Unit) × Unit) := D 18 (a0, ())
noncomputable def C_laws_eqSchema (D : Den ctx) (a0 : List (ByteArray × Int × Bool × Unit) × List Int × List (ByteArray × List Int × Bool × Unit) × Unit) (a1 : List (ByteArray × Int × Bool × Unit) × List Int × List (ByteArray × List Int × Bool × Unit) × Unit) : Option ((Bool × Unit) × Unit) := D 19 (a0, (a1, ()))
noncomputable def C_impl_RowOk (D : Den ctx) (a0 : List (ByteArray × Int × Bool × Unit) × List Int × List (ByteArray × List Int × Bool × Unit) × Unit) (a1 : List (Int × Int × ByteArray × Unit)) : Option ((Bool × Unit) × Unit) := D 26 (a0, (a1, ()))
noncomputable def C_spec_RowOk (D : Den ctx) (a0 : List (ByteArray × Int × Bool × Unit) × List Int × List (ByteArray × List Int × Bool × Unit) × Unit) (a1 : List (Int × Int × ByteArray × Unit)) : Option ((Bool × Unit) × Unit) := D 27 (a0, (a1, ()))
noncomputable def C_impl_ColNameOk (D : Den ctx) (a0 : ByteArray) : Option ((Bool × Unit) × Unit) := D 28 (a0, ())
noncomputable def C_spec_ColNameOk (D : Den ctx) (a0 : ByteArray) : Option ((Bool × Unit) × Unit) := D 29 (a0, ())
noncomputable def C_impl_ColAt (D : Den ctx) (a0 : List (ByteArray × Int × Bool × Unit) × List Int × List (ByteArray × List Int × Bool × Unit) × Unit) (a1 : ByteArray) : Option ((Int × Unit) × Unit) := D 30 (a0, (a1, ()))
noncomputable def C_spec_ColAt (D : Den ctx) (a0 : List (ByteArray × Int × Bool × Unit) × List Int × List (ByteArray × List Int × Bool × Unit) × Unit) (a1 : ByteArray) : Option ((Int × Unit) × Unit) := D 31 (a0, (a1, ()))
noncomputable def C_impl_KeyOfRow (D : Den ctx) (a0 : List (ByteArray × Int × Bool × Unit) × List Int × List (ByteArray × List Int × Bool × Unit) × Unit) (a1 : List (Int × Int × ByteArray × Unit)) : Option ((List (Int × Int × ByteArray × Unit) × Unit) × Unit) := D 33 (a0, (a1, ()))
noncomputable def C_spec_KeyOfRow (D : Den ctx) (a0 : List (ByteArray × Int × Bool × Unit) × List Int × List (ByteArray × List Int × Bool × Unit) × Unit) (a1 : List (Int × Int × ByteArray × Unit)) : Option ((List (Int × Int × ByteArray × Unit) × Unit) × Unit) := D 34 (a0, (a1, ()))
noncomputable def C_laws_szValueS (D : Den ctx) (a0 : List (Int × Int × ByteArray × Unit)) (a1 : Int) : Option ((Int × Unit) × Unit) := D 36 (a0, (a1, ()))
noncomputable def C_laws_toValueS (D : Den ctx) (a0 : List (Int × Int × ByteArray × Unit)) : Option ((List (Int × Int × ByteArray × Unit) × Unit) × Unit) := D 37 (a0, ())
noncomputable def C_laws_eqValueS (D : Den ctx) (a0 : List (Int × Int × ByteArray × Unit)) (a1 : List (Int × Int × ByteArray × Unit)) : Option ((Bool × Unit) × Unit) := D 38 (a0, (a1, ()))
noncomputable def C_laws_markSchema (D : Den ctx) (a0 : List (ByteArray × Int × Bool × Unit) × List Int × List (ByteArray × List Int × Bool × Unit) × Unit) (a1 : Int) : Option ((Int × Unit) × (List (ByteArray × Int × Bool × Unit) × List Int × List (ByteArray × List Int × Bool × Unit) × Unit) × Unit) := D 39 (a0, (a1, ()))
noncomputable def C_laws_markValueS (D : Den ctx) (a0 : List (Int × Int × ByteArray × Unit)) (a1 : Int) : Option ((Int × Unit) × List (Int × Int × ByteArray × Unit) × Unit) := D 40 (a0, (a1, ()))
noncomputable def C_laws_heldValueS (D : Den ctx) (a0 : List (Int × Int × ByteArray × Unit)) (a1 : Int) : Option ((Int × Unit) × Unit) := D 41 (a0, (a1, ()))
noncomputable def C_impl_Project (D : Den ctx) (a0 : List (Int × Int × ByteArray × Unit)) (a1 : List Int) : Option ((List (Int × Int × ByteArray × Unit) × Unit) × Unit) := D 56 (a0, (a1, ()))
noncomputable def C_laws_szColS (D : Den ctx) (a0 : List (ByteArray × Int × Bool × Unit)) (a1 : Int) : Option ((Int × Unit) × Unit) := D 70 (a0, (a1, ()))
noncomputable def C_laws_szIntS (D : Den ctx) (a0 : List Int) (a1 : Int) : Option ((Int × Unit) × Unit) := D 71 (a0, (a1, ()))
noncomputable def C_laws_szIndexS (D : Den ctx) (a0 : List (ByteArray × List Int × Bool × Unit)) (a1 : Int) : Option ((Int × Unit) × Unit) := D 72 (a0, (a1, ()))
noncomputable def C_spec_l1In (D : Den ctx) (a0 : Int) (a1 : Int) (a2 : Int) : Option ((Bool × Unit) × Unit) := D 73 (a0, (a1, (a2, ())))
noncomputable def C_spec_l19Places (D : Den ctx) (a0 : List (ByteArray × Int × Bool × Unit) × List Int × List (ByteArray × List Int × Bool × Unit) × Unit) (a1 : List Int) (a2 : Int) : Option ((Bool × Unit) × Unit) := D 74 (a0, (a1, (a2, ())))
noncomputable def C_spec_l19Indexes (D : Den ctx) (a0 : List (ByteArray × Int × Bool × Unit) × List Int × List (ByteArray × List Int × Bool × Unit) × Unit) : Option ((Bool × Unit) × Unit) := D 75 (a0, ())
noncomputable def C_laws_toColS (D : Den ctx) (a0 : List (ByteArray × Int × Bool × Unit)) : Option ((List (ByteArray × Int × Bool × Unit) × Unit) × Unit) := D 76 (a0, ())
noncomputable def C_laws_toIntS (D : Den ctx) (a0 : List Int) : Option ((List Int × Unit) × Unit) := D 77 (a0, ())
noncomputable def C_laws_toIndexS (D : Den ctx) (a0 : List (ByteArray × List Int × Bool × Unit)) : Option ((List (ByteArray × List Int × Bool × Unit) × Unit) × Unit) := D 78 (a0, ())
noncomputable def C_impl_from (D : Den ctx) (a0 : Int) (a1 : Int) (a2 : Int) : Option ((Bool × Unit) × Unit) := D 79 (a0, (a1, (a2, ())))
noncomputable def C_impl_placesOk (D : Den ctx) (a0 : List (ByteArray × Int × Bool × Unit) × List Int × List (ByteArray × List Int × Bool × Unit) × Unit) (a1 : List Int) (a2 : Int) : Option ((Bool × Unit) × Unit) := D 80 (a0, (a1, (a2, ())))
noncomputable def C_slices_ContainsFunc_impl_Index_impl_Index (D : Den ctx) (a0 : List (ByteArray × List Int × Bool × Unit)) (a1 : Clo) : Option ((Bool × Unit) × Unit) := D 81 (a0, (a1, ()))
noncomputable def C_impl_SchemaOk_1 (D : Den ctx) (a0 : ByteArray × List Int × Bool × Unit) (a1 : ByteArray × List Int × Bool × Unit) : Option ((Bool × Unit) × Unit) := D 82 (a0, (a1, ()))
noncomputable def C_slices_ContainsFunc_int_int (D : Den ctx) (a0 : List Int) (a1 : Clo) : Option ((Bool × Unit) × Unit) := D 83 (a0, (a1, ()))
noncomputable def C_impl_SchemaOk_2 (D : Den ctx) (a0 : Int) (a1 : List (ByteArray × Int × Bool × Unit) × List Int × List (ByteArray × List Int × Bool × Unit) × Unit) : Option ((Bool × Unit) × Unit) := D 84 (a0, (a1, ()))
noncomputable def C_laws_eqColS (D : Den ctx) (a0 : List (ByteArray × Int × Bool × Unit)) (a1 : List (ByteArray × Int × Bool × Unit)) : Option ((Bool × Unit) × Unit) := D 85 (a0, (a1, ()))
noncomputable def C_laws_eqIntS (D : Den ctx) (a0 : List Int) (a1 : List Int) : Option ((Bool × Unit) × Unit) := D 86 (a0, (a1, ()))
noncomputable def C_laws_eqIndexS (D : Den ctx) (a0 : List (ByteArray × List Int × Bool × Unit)) (a1 : List (ByteArray × List Int × Bool × Unit)) : Option ((Bool × Unit) × Unit) := D 87 (a0, (a1, ()))
noncomputable def C_impl_ValueOk (D : Den ctx) (a0 : Int × Int × ByteArray × Unit) : Option ((Bool × Unit) × Unit) := D 94 (a0, ())
noncomputable def C_spec_ValueOk (D : Den ctx) (a0 : Int × Int × ByteArray × Unit) : Option ((Bool × Unit) × Unit) := D 95 (a0, ())
noncomputable def C_slices_IndexFunc_impl_Col_impl_Col (D : Den ctx) (a0 : List (ByteArray × Int × Bool × Unit)) (a1 : Clo) : Option ((Int × Unit) × Unit) := D 96 (a0, (a1, ()))
noncomputable def C_impl_ColAt_1 (D : Den ctx) (a0 : ByteArray × Int × Bool × Unit) (a1 : ByteArray) : Option ((Bool × Unit) × Unit) := D 97 (a0, (a1, ()))
noncomputable def C_spec_Project (D : Den ctx) (a0 : List (Int × Int × ByteArray × Unit)) (a1 : List Int) : Option ((List (Int × Int × ByteArray × Unit) × Unit) × Unit) := D 98 (a0, (a1, ()))
noncomputable def C_slices_ContainsFunc_impl_Value_impl_Value (D : Den ctx) (a0 : List (Int × Int × ByteArray × Unit)) (a1 : Clo) : Option ((Bool × Unit) × Unit) := D 99 (a0, (a1, ()))
noncomputable def C_laws_szValue (D : Den ctx) (a0 : Int × Int × ByteArray × Unit) (a1 : Int) : Option ((Int × Unit) × Unit) := D 101 (a0, (a1, ()))
noncomputable def C_laws_toValue (D : Den ctx) (a0 : Int × Int × ByteArray × Unit) : Option (((Int × Int × ByteArray × Unit) × Unit) × Unit) := D 102 (a0, ())
noncomputable def C_laws_eqValue (D : Den ctx) (a0 : Int × Int × ByteArray × Unit) (a1 : Int × Int × ByteArray × Unit) : Option ((Bool × Unit) × Unit) := D 103 (a0, (a1, ()))
noncomputable def C_laws_markColS (D : Den ctx) (a0 : List (ByteArray × Int × Bool × Unit)) (a1 : Int) : Option ((Int × Unit) × List (ByteArray × Int × Bool × Unit) × Unit) := D 104 (a0, (a1, ()))
noncomputable def C_laws_markIntS (D : Den ctx) (a0 : List Int) (a1 : Int) : Option ((Int × Unit) × List Int × Unit) := D 105 (a0, (a1, ()))
noncomputable def C_laws_markIndexS (D : Den ctx) (a0 : List (ByteArray × List Int × Bool × Unit)) (a1 : Int) : Option ((Int × Unit) × List (ByteArray × List Int × Bool × Unit) × Unit) := D 106 (a0, (a1, ()))
noncomputable def C_laws_markText (D : Den ctx) (a0 : Int) : Option ((ByteArray × Unit) × Unit) := D 107 (a0, ())
noncomputable def C_slices_ContainsFunc_impl_Value_impl_Valuex (D : Den ctx) (a0 : List (List (Int × Int × ByteArray × Unit))) (a1 : Clo) : Option ((Bool × Unit) × Unit) := D 116 (a0, (a1, ()))
noncomputable def C_slices_IndexFunc_impl_Value_impl_Value (D : Den ctx) (a0 : List (List (Int × Int × ByteArray × Unit))) (a1 : Clo) : Option ((Int × Unit) × Unit) := D 130 (a0, (a1, ()))
noncomputable def C_laws_heldSchema (D : Den ctx) (a0 : List (ByteArray × Int × Bool × Unit) × List Int × List (ByteArray × List Int × Bool × Unit) × Unit) (a1 : Int) : Option ((Int × Unit) × Unit) := D 136 (a0, (a1, ()))
noncomputable def C_laws_szCol (D : Den ctx) (a0 : ByteArray × Int × Bool × Unit) (a1 : Int) : Option ((Int × Unit) × Unit) := D 143 (a0, (a1, ()))
noncomputable def C_laws_szIndex (D : Den ctx) (a0 : ByteArray × List Int × Bool × Unit) (a1 : Int) : Option ((Int × Unit) × Unit) := D 144 (a0, (a1, ()))
noncomputable def C_laws_toCol (D : Den ctx) (a0 : ByteArray × Int × Bool × Unit) : Option (((ByteArray × Int × Bool × Unit) × Unit) × Unit) := D 145 (a0, ())
noncomputable def C_laws_toIndex (D : Den ctx) (a0 : ByteArray × List Int × Bool × Unit) : Option (((ByteArray × List Int × Bool × Unit) × Unit) × Unit) := D 146 (a0, ())
noncomputable def C_slices_Contains_int_int (D : Den ctx) (a0 : List Int) (a1 : Int) : Option ((Bool × Unit) × Unit) := D 147 (a0, (a1, ()))
noncomputable def C_slices_IndexFunc_impl_Index_impl_Index (D : Den ctx) (a0 : List (ByteArray × List Int × Bool × Unit)) (a1 : Clo) : Option ((Int × Unit) × Unit) := D 148 (a0, (a1, ()))
noncomputable def C_slices_IndexFunc_int_int (D : Den ctx) (a0 : List Int) (a1 : Clo) : Option ((Int × Unit) × Unit) := D 149 (a0, (a1, ()))
noncomputable def C_laws_eqCol (D : Den ctx) (a0 : ByteArray × Int × Bool × Unit) (a1 : ByteArray × Int × Bool × Unit) : Option ((Bool × Unit) × Unit) := D 150 (a0, (a1, ()))
noncomputable def C_laws_eqIndex (D : Den ctx) (a0 : ByteArray × List Int × Bool × Unit) (a1 : ByteArray × List Int × Bool × Unit) : Option ((Bool × Unit) × Unit) := D 151 (a0, (a1, ()))
noncomputable def C_slices_IndexFunc_impl_Value_impl_Valuex (D : Den ctx) (a0 : List (Int × Int × ByteArray × Unit)) (a1 : Clo) : Option ((Int × Unit) × Unit) := D 158 (a0, (a1, ()))
noncomputable def C_laws_heldColS (D : Den ctx) (a0 : List (ByteArray × Int × Bool × Unit)) (a1 : Int) : Option ((Int × Unit) × Unit) := D 178 (a0, (a1, ()))
noncomputable def C_laws_heldIntS (D : Den ctx) (a0 : List Int) (a1 : Int) : Option ((Int × Unit) × Unit) := D 179 (a0, (a1, ()))
noncomputable def C_laws_heldIndexS (D : Den ctx) (a0 : List (ByteArray × List Int × Bool × Unit)) (a1 : Int) : Option ((Int × Unit) × Unit) := D 180 (a0, (a1, ()))
noncomputable def C_slices_Index_int_int (D : Den ctx) (a0 : List Int) (a1 : Int) : Option ((Int × Unit) × Unit) := D 186 (a0, (a1, ()))
end Go.G

namespace Go.G
set_option maxRecDepth 100000
set_option maxHeartbeats 0
open Go Go.V
noncomputable def laws_FnExactKeyOfRow_e (D : Den ctx) (n : Nat) (a0 : List (ByteArray × Int × Bool × Unit) × List Int × List (ByteArray × List Int × Bool × Unit) × Unit) (a1 : List (Int × Int × ByteArray × Unit)) : Option ((Bool × Unit) × Unit) := bindD (C_laws_szSchema D a0 1048576) fun b ↦ br (decide (Prod.fst (Prod.fst b) < 0)) (some ((true, ()), ())) (bindD (C_laws_szValueS D a1 (Prod.fst (Prod.fst b))) fun b ↦ br (decide (Prod.fst (Prod.fst b) < 0)) (some ((true, ()), ())) (bindD (C_laws_toSchema D a0) fun b ↦ bindD (C_laws_toValueS D a1) fun b_1 ↦ bindD (C_spec_KeyOfRow D (Prod.fst (Prod.fst (Prod.fst b)), Prod.fst (Prod.snd (Prod.fst (Prod.fst b))), Prod.fst (Prod.snd (Prod.snd (Prod.fst (Prod.fst b)))), ()) (Prod.fst (Prod.fst b_1))) fun b ↦ bindD (C_laws_toSchema D a0) fun b_2 ↦ bindD (C_laws_toValueS D a1) fun b_3 ↦ bindD (C_impl_KeyOfRow D (Prod.fst (Prod.fst (Prod.fst b_2)), Prod.fst (Prod.snd (Prod.fst (Prod.fst b_2))), Prod.fst (Prod.snd (Prod.snd (Prod.fst (Prod.fst b_2)))), ()) (Prod.fst (Prod.fst b_3))) fun b_4 ↦ bindD (C_laws_eqValueS D (Prod.fst (Prod.fst b_4)) (Prod.fst (Prod.fst b))) fun b_5 ↦ br (!Prod.fst (Prod.fst b_5)) (some ((false, ()), ())) (bindD (C_laws_toSchema D a0) fun b_6 ↦ bindD (C_laws_eqSchema D (Prod.fst (Prod.fst (Prod.fst b_2)), Prod.fst (Prod.snd (Prod.fst (Prod.fst b_2))), Prod.fst (Prod.snd (Prod.snd (Prod.fst (Prod.fst b_2)))), ()) (Prod.fst (Prod.fst (Prod.fst b_6)), Prod.fst (Prod.snd (Prod.fst (Prod.fst b_6))), Prod.fst (Prod.snd (Prod.snd (Prod.fst (Prod.fst b_6)))), ())) fun b_7 ↦ br (!Prod.fst (Prod.fst b_7)) (some ((false, ()), ())) (bindD (C_laws_toValueS D a1) fun b_8 ↦ bindD (C_laws_eqValueS D (Prod.fst (Prod.fst b_3)) (Prod.fst (Prod.fst b_8))) fun b_9 ↦ br (!Prod.fst (Prod.fst b_9)) (some ((false, ()), ())) (bindD (C_laws_markSchema D (Prod.fst (Prod.fst (Prod.fst b_2)), Prod.fst (Prod.snd (Prod.fst (Prod.fst b_2))), Prod.fst (Prod.snd (Prod.snd (Prod.fst (Prod.fst b_2)))), ()) 1) fun b_10 ↦ bindD (C_laws_markValueS D (Prod.fst (Prod.fst b_3)) (Prod.fst (Prod.fst b_10))) fun b_11 ↦ br (decide (Prod.fst (Prod.fst b_11) < 0)) (some ((false, ()), ())) (bindD (C_laws_eqValueS D (Prod.fst (Prod.fst b_4)) (Prod.fst (Prod.fst b))) fun b_12 ↦ br (!Prod.fst (Prod.fst b_12)) (some ((false, ()), ())) (bindD (C_laws_markValueS D (Prod.fst (Prod.fst b_4)) 1) fun b_13 ↦ bindD (C_laws_heldValueS D (Prod.fst (Prod.snd b_13)) 1) fun b_14 ↦ br (decide (Prod.fst (Prod.fst b_14) < 0)) (some ((false, ()), ())) (br (Prod.fst (Prod.fst b_14) != Prod.fst (Prod.fst b_13)) (some ((false, ()), ())) (bindD (C_laws_toSchema D a0) fun b_15 ↦ bindD (C_laws_toValueS D a1) fun b_16 ↦ bindD (C_impl_KeyOfRow D (Prod.fst (Prod.fst (Prod.fst b_15)), Prod.fst (Prod.snd (Prod.fst (Prod.fst b_15))), Prod.fst (Prod.snd (Prod.snd (Prod.fst (Prod.fst b_15)))), ()) (Prod.fst (Prod.fst b_16))) fun b_17 ↦ bindD (C_laws_eqValueS D (Prod.fst (Prod.fst b_17)) (Prod.fst (Prod.fst b))) fun b ↦ br (!Prod.fst (Prod.fst b)) (some ((false, ()), ())) (bindD (C_laws_heldValueS D (Prod.fst (Prod.snd b_13)) 1) fun b ↦ br (decide (Prod.fst (Prod.fst b) < 0)) (some ((false, ()), ())) (br (Prod.fst (Prod.fst b) != Prod.fst (Prod.fst b_13)) (some ((false, ()), ())) (some ((true, ()), ())))))))))))))
noncomputable def F_laws_FnExactKeyOfRow (D : Den ctx) (n : Nat) (a0 : List (ByteArray × Int × Bool × Unit) × List Int × List (ByteArray × List Int × Bool × Unit) × Unit) (a1 : List (Int × Int × ByteArray × Unit)) : Option ((Bool × Unit) × Unit) := laws_FnExactKeyOfRow_e D n a0 a1
theorem E_laws_FnExactKeyOfRow (D : Den ctx) (n : Nat) (a0 : List (ByteArray × Int × Bool × Unit) × List Int × List (ByteArray × List Int × Bool × Unit) × Unit) (a1 : List (Int × Int × ByteArray × Unit)) : rfC funcTab D n 5 (a0, (a1, ())) = F_laws_FnExactKeyOfRow D n a0 a1 := by kernel_rfl
end Go.G

namespace Go.G
set_option maxRecDepth 100000
set_option maxHeartbeats 0
open Go Go.V
noncomputable def laws_szSchema_e (D : Den ctx) (n : Nat) (a0 : List (ByteArray × Int × Bool × Unit) × List Int × List (ByteArray × List Int × Bool × Unit) × Unit) (a1 : Int) : Option ((Int × Unit) × Unit) := bindD (C_laws_szColS D (Prod.fst a0) a1) fun b ↦ br (decide (Prod.fst (Prod.fst b) < 0)) (some ((-1, ()), ())) (bindD (C_laws_szIntS D (Prod.fst (Prod.snd a0)) (Prod.fst (Prod.fst b))) fun b ↦ br (decide (Prod.fst (Prod.fst b) < 0)) (some ((-1, ()), ())) (bindD (C_laws_szIndexS D (Prod.fst (Prod.snd (Prod.snd a0))) (Prod.fst (Prod.fst b))) fun b ↦ br (decide (Prod.fst (Prod.fst b) < 0)) (some ((-1, ()), ())) (some ((Prod.fst (Prod.fst b), ()), ()))))
noncomputable def F_laws_szSchema (D : Den ctx) (n : Nat) (a0 : List (ByteArray × Int × Bool × Unit) × List Int × List (ByteArray × List Int × Bool × Unit) × Unit) (a1 : Int) : Option ((Int × Unit) × Unit) := laws_szSchema_e D n a0 a1
theorem E_laws_szSchema (D : Den ctx) (n : Nat) (a0 : List (ByteArray × Int × Bool × Unit) × List Int × List (ByteArray × List Int × Bool × Unit) × Unit) (a1 : Int) : rfC funcTab D n 15 (a0, (a1, ())) = F_laws_szSchema D n a0 a1 := by kernel_rfl
end Go.G

namespace Go.G
set_option maxRecDepth 100000
set_option maxHeartbeats 0
open Go Go.V
noncomputable def spec_SchemaOk_b0 (D : Den ctx) (n : Nat) (go : Int → List (ByteArray × Int × Bool × Unit) × List Int × List (ByteArray × List Int × Bool × Unit) × Unit → Option ((Bool × Unit) × Unit)) (K0 : Bool → List (ByteArray × Int × Bool × Unit) × List Int × List (ByteArray × List Int × Bool × Unit) × Unit → Option ((Bool × Unit) × Unit)) (K1 : List (ByteArray × Int × Bool × Unit) × List Int × List (ByteArray × List Int × Bool × Unit) × Unit → Option ((Bool × Unit) × Unit)) (x0 : Int) (x1 : List (ByteArray × Int × Bool × Unit) × List Int × List (ByteArray × List Int × Bool × Unit) × Unit) : Option ((Bool × Unit) × Unit) := br (decide (x0 < (↑(List.length (Prod.fst x1)) : Int))) (br (decide (0 ≤ x0) && decide (x0 < (↑(List.length (Prod.fst x1)) : Int))) (bindD (C_spec_ColNameOk D (Prod.fst (List.getD (Prod.fst x1) (Int.toNat x0) (ByteArray.empty, 0, false, ())))) fun b ↦ br (!Prod.fst (Prod.fst b)) (K0 false x1) (br (decide (0 ≤ x0) && decide (x0 < (↑(List.length (Prod.fst x1)) : Int))) (bindD (C_spec_l1In D (Prod.fst (Prod.snd (List.getD (Prod.fst x1) (Int.toNat x0) (ByteArray.empty, 0, false, ())))) 1 3) fun b ↦ br (!Prod.fst (Prod.fst b)) (K0 false x1) (br (decide (0 ≤ x0) && decide (x0 < (↑(List.length (Prod.fst x1)) : Int))) (bindD (C_spec_ColAt D x1 (Prod.fst (List.getD (Prod.fst x1) (Int.toNat x0) (ByteArray.empty, 0, false, ())))) fun b ↦ br (Prod.fst (Prod.fst b) != x0) (K0 false x1) (go (IntKind.wrap IntKind.i64 (x0 + 1)) x1)) none)) none)) none) (K1 x1)
noncomputable def spec_SchemaOk_L0 (D : Den ctx) (n : Nat) (K0 : Bool → List (ByteArray × Int × Bool × Unit) × List Int × List (ByteArray × List Int × Bool × Unit) × Unit → Option ((Bool × Unit) × Unit)) (K1 : List (ByteArray × Int × Bool × Unit) × List Int × List (ByteArray × List Int × Bool × Unit) × Unit → Option ((Bool × Unit) × Unit)) : Nat → (Int) → (List (ByteArray × Int × Bool × Unit) × List Int × List (ByteArray × List Int × Bool × Unit) × Unit) → Option ((Bool × Unit) × Unit) | 0 => (fun x0 x1 => none) | m + 1 => (fun x0 x1 => spec_SchemaOk_b0 D n (spec_SchemaOk_L0 D n K0 K1 m) K0 K1 x0 x1)
noncomputable def spec_SchemaOk_x0_0 (D : Den ctx) (n : Nat) (v0_0 : Bool) (v0_1 : List (ByteArray × Int × Bool × Unit) × List Int × List (ByteArray × List Int × Bool × Unit) × Unit) : Option ((Bool × Unit) × Unit) := some ((v0_0, ()), ())
noncomputable def spec_SchemaOk_b1 (D : Den ctx) (n : Nat) (go : Int → List (ByteArray × Int × Bool × Unit) × List Int × List (ByteArray × List Int × Bool × Unit) × Unit → Option ((Bool × Unit) × Unit)) (K0 : Bool → Option ((Bool × Unit) × Unit)) (K1 : Option ((Bool × Unit) × Unit)) (x1_0 : Int) (x1_1 : List (ByteArray × Int × Bool × Unit) × List Int × List (ByteArray × List Int × Bool × Unit) × Unit) : Option ((Bool × Unit) × Unit) := br (decide (x1_0 < (↑(List.length (Prod.fst (Prod.snd x1_1))) : Int))) (br (decide (0 ≤ x1_0) && decide (x1_0 < (↑(List.length (Prod.fst (Prod.snd x1_1))) : Int))) (br (decide (0 ≤ List.getD (Prod.fst (Prod.snd x1_1)) (Int.toNat x1_0) 0) && decide (List.getD (Prod.fst (Prod.snd x1_1)) (Int.toNat x1_0) 0 < (↑(List.length (Prod.fst x1_1)) : Int))) (br (Prod.fst (Prod.snd (Prod.snd (List.getD (Prod.fst x1_1) (Int.toNat (List.getD (Prod.fst (Prod.snd x1_1)) (Int.toNat x1_0) 0)) (ByteArray.empty, 0, false, ()))))) (K0 false) (go (IntKind.wrap IntKind.i64 (x1_0 + 1)) x1_1)) none) none) K1
noncomputable def spec_SchemaOk_L1 (D : Den ctx) (n : Nat) (K0 : Bool → Option ((Bool × Unit) × Unit)) (K1 : Option ((Bool × Unit) × Unit)) : Nat → (Int) → (List (ByteArray × Int × Bool × Unit) × List Int × List (ByteArray × List Int × Bool × Unit) × Unit) → Option ((Bool × Unit) × Unit) | 0 => (fun x1_0 x1_1 => none) | m + 1 => (fun x1_0 x1_1 => spec_SchemaOk_b1 D n (spec_SchemaOk_L1 D n K0 K1 m) K0 K1 x1_0 x1_1)
noncomputable def spec_SchemaOk_x1_0 (D : Den ctx) (n : Nat) (v0_0 : Bool) : Option ((Bool × Unit) × Unit) := some ((v0_0, ()), ())
noncomputable def spec_SchemaOk_x1_1 (D : Den ctx) (n : Nat) : Option ((Bool × Unit) × Unit) := some ((true, ()), ())
noncomputable def spec_SchemaOk_LP1 (D : Den ctx) (n : Nat) : (Int) → (List (ByteArray × Int × Bool × Unit) × List Int × List (ByteArray × List Int × Bool × Unit) × Unit) → Option ((Bool × Unit) × Unit) := (fun x1_0 x1_1 => spec_SchemaOk_L1 D n (fun v0_0 => spec_SchemaOk_x1_0 D n v0_0) (spec_SchemaOk_x1_1 D n) n x1_0 x1_1)
noncomputable def spec_SchemaOk_x0_1 (D : Den ctx) (n : Nat) (lp1 : Int → List (ByteArray × Int × Bool × Unit) × List Int × List (ByteArray × List Int × Bool × Unit) × Unit → Option ((Bool × Unit) × Unit)) (v1_0 : List (ByteArray × Int × Bool × Unit) × List Int × List (ByteArray × List Int × Bool × Unit) × Unit) : Option ((Bool × Unit) × Unit) := bindD (C_spec_l1In D (↑(List.length (Prod.fst v1_0)) : Int) 1 5) fun b ↦ br (!Prod.fst (Prod.fst b)) (some ((false, ()), ())) (bindD (C_spec_l19Places D v1_0 (Prod.fst (Prod.snd v1_0)) 4) fun b ↦ br (!Prod.fst (Prod.fst b)) (some ((false, ()), ())) (bindD (C_spec_l19Indexes D v1_0) fun b ↦ br (!Prod.fst (Prod.fst b)) (some ((false, ()), ())) (lp1 0 v1_0)))
noncomputable def spec_SchemaOk_LP0 (D : Den ctx) (n : Nat) : (Int) → (List (ByteArray × Int × Bool × Unit) × List Int × List (ByteArray × List Int × Bool × Unit) × Unit) → Option ((Bool × Unit) × Unit) := (fun x0 x1 => spec_SchemaOk_L0 D n (fun v0_0 v0_1 => spec_SchemaOk_x0_0 D n v0_0 v0_1) (fun v1_0 => spec_SchemaOk_x0_1 D n (spec_SchemaOk_LP1 D n) v1_0) n x0 x1)
noncomputable def spec_SchemaOk_e (D : Den ctx) (n : Nat) (lp0 : Int → List (ByteArray × Int × Bool × Unit) × List Int × List (ByteArray × List Int × Bool × Unit) × Unit → Option ((Bool × Unit) × Unit)) (a0 : List (ByteArray × Int × Bool × Unit) × List Int × List (ByteArray × List Int × Bool × Unit) × Unit) : Option ((Bool × Unit) × Unit) := lp0 0 a0
noncomputable def F_spec_SchemaOk (D : Den ctx) (n : Nat) (a0 : List (ByteArray × Int × Bool × Unit) × List Int × List (ByteArray × List Int × Bool × Unit) × Unit) : Option ((Bool × Unit) × Unit) := spec_SchemaOk_e D n (spec_SchemaOk_LP0 D n) a0
def spec_SchemaOk_Q0 (x0 : Int) (x1 : List (ByteArray × Int × Bool × Unit) × List Int × List (ByteArray × List Int × Bool × Unit) × Unit) : St := stq 76 [(1, AV.addr 1 []), (3, AV.val (Ty.int IntKind.i64) x0)] [(1, Root.mk (Ty.pair (Ty.sl (Ty.pair Ty.str (Ty.pair (Ty.int IntKind.i64) (Ty.pair Ty.bool Ty.unit)))) (Ty.pair (Ty.sl (Ty.int IntKind.i64)) (Ty.pair (Ty.sl (Ty.pair Ty.str (Ty.pair (Ty.sl (Ty.int IntKind.i64)) (Ty.pair Ty.bool Ty.unit)))) Ty.unit))) Mk.no x1 true)]
def spec_SchemaOk_Q0_0 (v0_0 : Bool) (v0_1 : List (ByteArray × Int × Bool × Unit) × List Int × List (ByteArray × List Int × Bool × Unit) × Unit) : St := stq 76 [(1, AV.addr 1 []), (2, AV.val Ty.bool v0_0)] [(1, Root.mk (Ty.pair (Ty.sl (Ty.pair Ty.str (Ty.pair (Ty.int IntKind.i64) (Ty.pair Ty.bool Ty.unit)))) (Ty.pair (Ty.sl (Ty.int IntKind.i64)) (Ty.pair (Ty.sl (Ty.pair Ty.str (Ty.pair (Ty.sl (Ty.int IntKind.i64)) (Ty.pair Ty.bool Ty.unit)))) Ty.unit))) Mk.no v0_1 true)]
def spec_SchemaOk_Q0_1 (v1_0 : List (ByteArray × Int × Bool × Unit) × List Int × List (ByteArray × List Int × Bool × Unit) × Unit) : St := stq 76 [(1, AV.addr 1 [])] [(1, Root.mk (Ty.pair (Ty.sl (Ty.pair Ty.str (Ty.pair (Ty.int IntKind.i64) (Ty.pair Ty.bool Ty.unit)))) (Ty.pair (Ty.sl (Ty.int IntKind.i64)) (Ty.pair (Ty.sl (Ty.pair Ty.str (Ty.pair (Ty.sl (Ty.int IntKind.i64)) (Ty.pair Ty.bool Ty.unit)))) Ty.unit))) Mk.no v1_0 true)]
def spec_SchemaOk_Q1 (x1_0 : Int) (x1_1 : List (ByteArray × Int × Bool × Unit) × List Int × List (ByteArray × List Int × Bool × Unit) × Unit) : St := stq 76 [(1, AV.addr 1 []), (4, AV.val (Ty.int IntKind.i64) x1_0)] [(1, Root.mk (Ty.pair (Ty.sl (Ty.pair Ty.str (Ty.pair (Ty.int IntKind.i64) (Ty.pair Ty.bool Ty.unit)))) (Ty.pair (Ty.sl (Ty.int IntKind.i64)) (Ty.pair (Ty.sl (Ty.pair Ty.str (Ty.pair (Ty.sl (Ty.int IntKind.i64)) (Ty.pair Ty.bool Ty.unit)))) Ty.unit))) Mk.no x1_1 true)]
def spec_SchemaOk_Q1_0 (v0_0 : Bool) : St := stq 76 [(2, AV.val Ty.bool v0_0)] []
def spec_SchemaOk_Q1_1 : St := stq 76 [] []
theorem spec_SchemaOk_SB0 (D : Den ctx) (n : Nat) (m : Nat) (K : Ex → St → Option (Out ctx 16)) (x0 : Int) (x1 : List (ByteArray × Int × Bool × Unit) × List Int × List (ByteArray × List Int × Bool × Unit) × Unit) :
  LQ funcTab D n 16 [.r, .l, .r, .l] (m + 1) (spec_SchemaOk_Q0 x0 x1) K = spec_SchemaOk_b0 D n (fun x0 x1 => LQ funcTab D n 16 [.r, .l, .r, .l] m (spec_SchemaOk_Q0 x0 x1) K) (fun v0_0 v0_1 => K (Ex.ret) (spec_SchemaOk_Q0_0 v0_0 v0_1)) (fun v1_0 => K (Ex.exit 0) (spec_SchemaOk_Q0_1 v1_0)) x0 x1 := by kernel_rfl
theorem spec_SchemaOk_EL0 (D : Den ctx) (n : Nat) (K : Ex → St → Option (Out ctx 16)) : ∀ (m : Nat) (x0 : Int) (x1 : List (ByteArray × Int × Bool × Unit) × List Int × List (ByteArray × List Int × Bool × Unit) × Unit), LQ funcTab D n 16 [.r, .l, .r, .l] m (spec_SchemaOk_Q0 x0 x1) K = spec_SchemaOk_L0 D n (fun v0_0 v0_1 => K (Ex.ret) (spec_SchemaOk_Q0_0 v0_0 v0_1)) (fun v1_0 => K (Ex.exit 0) (spec_SchemaOk_Q0_1 v1_0)) m x0 x1
  | 0, x0, x1 => LQ_zero ..
  | m + 1, x0, x1 => by
    have ih : (fun x0 x1 => LQ funcTab D n 16 [.r, .l, .r, .l] m (spec_SchemaOk_Q0 x0 x1) K) = spec_SchemaOk_L0 D n (fun v0_0 v0_1 => K (Ex.ret) (spec_SchemaOk_Q0_0 v0_0 v0_1)) (fun v1_0 => K (Ex.exit 0) (spec_SchemaOk_Q0_1 v1_0)) m := by funext x0 x1; exact spec_SchemaOk_EL0 D n K m x0 x1
    rw [spec_SchemaOk_SB0]
    rw [ih]; rfl
theorem spec_SchemaOk_SB1 (D : Den ctx) (n : Nat) (m : Nat) (K : Ex → St → Option (Out ctx 16)) (x1_0 : Int) (x1_1 : List (ByteArray × Int × Bool × Unit) × List Int × List (ByteArray × List Int × Bool × Unit) × Unit) :
  LQ funcTab D n 16 [.r, .r, .r, .l, .r, .l] (m + 1) (spec_SchemaOk_Q1 x1_0 x1_1) K = spec_SchemaOk_b1 D n (fun x1_0 x1_1 => LQ funcTab D n 16 [.r, .r, .r, .l, .r, .l] m (spec_SchemaOk_Q1 x1_0 x1_1) K) (fun v0_0 => K (Ex.ret) (spec_SchemaOk_Q1_0 v0_0)) (K (Ex.exit 2) (spec_SchemaOk_Q1_1)) x1_0 x1_1 := by kernel_rfl
theorem spec_SchemaOk_EL1 (D : Den ctx) (n : Nat) (K : Ex → St → Option (Out ctx 16)) : ∀ (m : Nat) (x1_0 : Int) (x1_1 : List (ByteArray × Int × Bool × Unit) × List Int × List (ByteArray × List Int × Bool × Unit) × Unit), LQ funcTab D n 16 [.r, .r, .r, .l, .r, .l] m (spec_SchemaOk_Q1 x1_0 x1_1) K = spec_SchemaOk_L1 D n (fun v0_0 => K (Ex.ret) (spec_SchemaOk_Q1_0 v0_0)) (K (Ex.exit 2) (spec_SchemaOk_Q1_1)) m x1_0 x1_1
  | 0, x1_0, x1_1 => LQ_zero ..
  | m + 1, x1_0, x1_1 => by
    have ih : (fun x1_0 x1_1 => LQ funcTab D n 16 [.r, .r, .r, .l, .r, .l] m (spec_SchemaOk_Q1 x1_0 x1_1) K) = spec_SchemaOk_L1 D n (fun v0_0 => K (Ex.ret) (spec_SchemaOk_Q1_0 v0_0)) (K (Ex.exit 2) (spec_SchemaOk_Q1_1)) m := by funext x1_0 x1_1; exact spec_SchemaOk_EL1 D n K m x1_0 x1_1
    rw [spec_SchemaOk_SB1]
    rw [ih]; rfl
theorem spec_SchemaOk_X1_0 (D : Den ctx) (n : Nat) (v0_0 : Bool) :
  (CQ funcTab D n 16 [] [.r, .r, .r, .l, .r, .l] (lastK funcTab 16)) (Ex.ret) (spec_SchemaOk_Q1_0 v0_0) = spec_SchemaOk_x1_0 D n v0_0 := by kernel_rfl
theorem spec_SchemaOk_X1_1 (D : Den ctx) (n : Nat) :
  (CQ funcTab D n 16 [] [.r, .r, .r, .l, .r, .l] (lastK funcTab 16)) (Ex.exit 2) (spec_SchemaOk_Q1_1) = spec_SchemaOk_x1_1 D n := by kernel_rfl
theorem spec_SchemaOk_ELP1 (D : Den ctx) (n : Nat) (x1_0 : Int) (x1_1 : List (ByteArray × Int × Bool × Unit) × List Int × List (ByteArray × List Int × Bool × Unit) × Unit) :
  LQ funcTab D n 16 [.r, .r, .r, .l, .r, .l] n (spec_SchemaOk_Q1 x1_0 x1_1) (CQ funcTab D n 16 [] [.r, .r, .r, .l, .r, .l] (lastK funcTab 16)) = spec_SchemaOk_LP1 D n x1_0 x1_1 := by
  rw [spec_SchemaOk_EL1]
  simp only [spec_SchemaOk_X1_0, spec_SchemaOk_X1_1]
  rfl
theorem spec_SchemaOk_X0_0 (D : Den ctx) (n : Nat) (v0_0 : Bool) (v0_1 : List (ByteArray × Int × Bool × Unit) × List Int × List (ByteArray × List Int × Bool × Unit) × Unit) :
  (CQ funcTab D n 16 [] [.r, .l, .r, .l] (lastK funcTab 16)) (Ex.ret) (spec_SchemaOk_Q0_0 v0_0 v0_1) = spec_SchemaOk_x0_0 D n v0_0 v0_1 := by kernel_rfl
theorem spec_SchemaOk_X0_1 (D : Den ctx) (n : Nat) (v1_0 : List (ByteArray × Int × Bool × Unit) × List Int × List (ByteArray × List Int × Bool × Unit) × Unit) :
  (CQ funcTab D n 16 [] [.r, .l, .r, .l] (lastK funcTab 16)) (Ex.exit 0) (spec_SchemaOk_Q0_1 v1_0) = spec_SchemaOk_x0_1 D n (fun x1_0 x1_1 => LQ funcTab D n 16 [.r, .r, .r, .l, .r, .l] n (spec_SchemaOk_Q1 x1_0 x1_1) (CQ funcTab D n 16 [] [.r, .r, .r, .l, .r, .l] (lastK funcTab 16))) v1_0 := by kernel_rfl
theorem spec_SchemaOk_ELP0 (D : Den ctx) (n : Nat) (x0 : Int) (x1 : List (ByteArray × Int × Bool × Unit) × List Int × List (ByteArray × List Int × Bool × Unit) × Unit) :
  LQ funcTab D n 16 [.r, .l, .r, .l] n (spec_SchemaOk_Q0 x0 x1) (CQ funcTab D n 16 [] [.r, .l, .r, .l] (lastK funcTab 16)) = spec_SchemaOk_LP0 D n x0 x1 := by
  rw [spec_SchemaOk_EL0]
  simp only [spec_SchemaOk_X0_0, spec_SchemaOk_X0_1, spec_SchemaOk_ELP1]
  rfl
theorem E_spec_SchemaOk (D : Den ctx) (n : Nat) (a0 : List (ByteArray × Int × Bool × Unit) × List Int × List (ByteArray × List Int × Bool × Unit) × Unit) : rfC funcTab D n 16 (a0, ()) = F_spec_SchemaOk D n a0 := by
  have h : rfC funcTab D n 16 (a0, ()) = spec_SchemaOk_e D n (fun x0 x1 => LQ funcTab D n 16 [.r, .l, .r, .l] n (spec_SchemaOk_Q0 x0 x1) (CQ funcTab D n 16 [] [.r, .l, .r, .l] (lastK funcTab 16))) a0 := by kernel_rfl
  rw [h]
  simp only [spec_SchemaOk_ELP0]
  rfl
end Go.G

namespace Go.G
set_option maxRecDepth 100000
set_option maxHeartbeats 0
open Go Go.V
noncomputable def laws_toSchema_e (D : Den ctx) (n : Nat) (a0 : List (ByteArray × Int × Bool × Unit) × List Int × List (ByteArray × List Int × Bool × Unit) × Unit) : Option (((List (ByteArray × Int × Bool × Unit) × List Int × List (ByteArray × List Int × Bool × Unit) × Unit) × Unit) × Unit) := bindD (C_laws_toColS D (Prod.fst a0)) fun b ↦ bindD (C_laws_toIntS D (Prod.fst (Prod.snd a0))) fun b_1 ↦ bindD (C_laws_toIndexS D (Prod.fst (Prod.snd (Prod.snd a0)))) fun b_2 ↦ some (((Prod.fst (Prod.fst b), Prod.fst (Prod.fst b_1), Prod.fst (Prod.fst b_2), ()), ()), ())
noncomputable def F_laws_toSchema (D : Den ctx) (n : Nat) (a0 : List (ByteArray × Int × Bool × Unit) × List Int × List (ByteArray × List Int × Bool × Unit) × Unit) : Option (((List (ByteArray × Int × Bool × Unit) × List Int × List (ByteArray × List Int × Bool × Unit) × Unit) × Unit) × Unit) := laws_toSchema_e D n a0
theorem E_laws_toSchema (D : Den ctx) (n : Nat) (a0 : List (ByteArray × Int × Bool × Unit) × List Int × List (ByteArray × List Int × Bool × Unit) × Unit) : rfC funcTab D n 17 (a0, ()) = F_laws_toSchema D n a0 := by kernel_rfl
end Go.G

namespace Go.G
set_option maxRecDepth 100000
set_option maxHeartbeats 0
open Go Go.V
noncomputable def impl_SchemaOk_b0 (D : Den ctx) (n : Nat) (go : List (ByteArray × Int × Bool × Unit) → Int → Int → List (ByteArray × Int × Bool × Unit) × List Int × List (ByteArray × List Int × Bool × Unit) × Unit → Option ((Bool × Unit) × Unit)) (K0 : Bool → List (ByteArray × Int × Bool × Unit) × List Int × List (ByteArray × List Int × Bool × Unit) × Unit → Option ((Bool × Unit) × Unit)) (K1 : List (ByteArray × Int × Bool × Unit) × List Int × List (ByteArray × List Int × Bool × Unit) × Unit → Option ((Bool × Unit) × Unit)) (x0 : List (ByteArray × Int × Bool × Unit)) (x1 : Int) (x2 : Int) (x3 : List (ByteArray × Int × Bool × Unit) × List Int × List (ByteArray × List Int × Bool × Unit) × Unit) : Option ((Bool × Unit) × Unit) := br (decide (x2 < x1)) (br (decide (0 ≤ x2) && decide (x2 < (↑(List.length x0) : Int))) (bindD (C_impl_ColNameOk D (Prod.fst (List.getD x0 (Int.toNat x2) (ByteArray.empty, 0, false, ())))) fun b ↦ br (!Prod.fst (Prod.fst b)) (K0 false x3) (bindD (C_impl_from D (Prod.fst (Prod.snd (List.getD x0 (Int.toNat x2) (ByteArray.empty, 0, false, ())))) 1 3) fun b ↦ br (!Prod.fst (Prod.fst b)) (K0 false x3) (bindD (C_impl_ColAt D x3 (Prod.fst (List.getD x0 (Int.toNat x2) (ByteArray.empty, 0, false, ())))) fun b ↦ br (Prod.fst (Prod.fst b) != x2) (K0 false x3) (go x0 x1 (IntKind.wrap IntKind.i64 (x2 + 1)) x3)))) none) (K1 x3)
noncomputable def impl_SchemaOk_L0 (D : Den ctx) (n : Nat) (K0 : Bool → List (ByteArray × Int × Bool × Unit) × List Int × List (ByteArray × List Int × Bool × Unit) × Unit → Option ((Bool × Unit) × Unit)) (K1 : List (ByteArray × Int × Bool × Unit) × List Int × List (ByteArray × List Int × Bool × Unit) × Unit → Option ((Bool × Unit) × Unit)) : Nat → (List (ByteArray × Int × Bool × Unit)) → (Int) → (Int) → (List (ByteArray × Int × Bool × Unit) × List Int × List (ByteArray × List Int × Bool × Unit) × Unit) → Option ((Bool × Unit) × Unit) | 0 => (fun x0 x1 x2 x3 => none) | m + 1 => (fun x0 x1 x2 x3 => impl_SchemaOk_b0 D n (impl_SchemaOk_L0 D n K0 K1 m) K0 K1 x0 x1 x2 x3)
noncomputable def impl_SchemaOk_x0_0 (D : Den ctx) (n : Nat) (v0_0 : Bool) (v0_1 : List (ByteArray × Int × Bool × Unit) × List Int × List (ByteArray × List Int × Bool × Unit) × Unit) : Option ((Bool × Unit) × Unit) := some ((v0_0, ()), ())
noncomputable def impl_SchemaOk_b1 (D : Den ctx) (n : Nat) (go : List (ByteArray × List Int × Bool × Unit) → Int → Int → List (ByteArray × Int × Bool × Unit) × List Int × List (ByteArray × List Int × Bool × Unit) × Unit → Option ((Bool × Unit) × Unit)) (K0 : Bool → List (ByteArray × Int × Bool × Unit) × List Int × List (ByteArray × List Int × Bool × Unit) × Unit → Option ((Bool × Unit) × Unit)) (K1 : List (ByteArray × Int × Bool × Unit) × List Int × List (ByteArray × List Int × Bool × Unit) × Unit → Option ((Bool × Unit) × Unit)) (x1_0 : List (ByteArray × List Int × Bool × Unit)) (x1_1 : Int) (x1_2 : Int) (x1_3 : List (ByteArray × Int × Bool × Unit) × List Int × List (ByteArray × List Int × Bool × Unit) × Unit) : Option ((Bool × Unit) × Unit) := br (decide (x1_2 < x1_1)) (br (decide (0 ≤ x1_2) && decide (x1_2 < (↑(List.length x1_0) : Int))) (bindD (C_impl_ColNameOk D (Prod.fst (List.getD x1_0 (Int.toNat x1_2) (ByteArray.empty, [], false, ())))) fun b ↦ br (!Prod.fst (Prod.fst b)) (K0 false x1_3) (bindD (C_impl_placesOk D x1_3 (Prod.fst (Prod.snd (List.getD x1_0 (Int.toNat x1_2) (ByteArray.empty, [], false, ())))) 3) fun b ↦ br (!Prod.fst (Prod.fst b)) (K0 false x1_3) (br (decide (0 ≤ 0) && decide (0 ≤ x1_2) && decide (x1_2 ≤ (↑(List.length (Prod.fst (Prod.snd (Prod.snd x1_3)))) : Int))) (bindD (C_slices_ContainsFunc_impl_Index_impl_Index D (List.drop (Int.toNat 0) (List.take (Int.toNat x1_2) (Prod.fst (Prod.snd (Prod.snd x1_3))))) (Clo.mk 82 [CapV.rptr (Ty.pair Ty.str (Ty.pair (Ty.sl (Ty.int IntKind.i64)) (Ty.pair Ty.bool Ty.unit))) (List.getD x1_0 (Int.toNat x1_2) (ByteArray.empty, [], false, ()))])) fun b ↦ br (Prod.fst (Prod.fst b)) (K0 false x1_3) (go x1_0 x1_1 (IntKind.wrap IntKind.i64 (x1_2 + 1)) x1_3)) none))) none) (K1 x1_3)
noncomputable def impl_SchemaOk_L1 (D : Den ctx) (n : Nat) (K0 : Bool → List (ByteArray × Int × Bool × Unit) × List Int × List (ByteArray × List Int × Bool × Unit) × Unit → Option ((Bool × Unit) × Unit)) (K1 : List (ByteArray × Int × Bool × Unit) × List Int × List (ByteArray × List Int × Bool × Unit) × Unit → Option ((Bool × Unit) × Unit)) : Nat → (List (ByteArray × List Int × Bool × Unit)) → (Int) → (Int) → (List (ByteArray × Int × Bool × Unit) × List Int × List (ByteArray × List Int × Bool × Unit) × Unit) → Option ((Bool × Unit) × Unit) | 0 => (fun x1_0 x1_1 x1_2 x1_3 => none) | m + 1 => (fun x1_0 x1_1 x1_2 x1_3 => impl_SchemaOk_b1 D n (impl_SchemaOk_L1 D n K0 K1 m) K0 K1 x1_0 x1_1 x1_2 x1_3)
noncomputable def impl_SchemaOk_x1_0 (D : Den ctx) (n : Nat) (v0_0 : Bool) (v0_1 : List (ByteArray × Int × Bool × Unit) × List Int × List (ByteArray × List Int × Bool × Unit) × Unit) : Option ((Bool × Unit) × Unit) := some ((v0_0, ()), ())
noncomputable def impl_SchemaOk_x1_1 (D : Den ctx) (n : Nat) (v1_0 : List (ByteArray × Int × Bool × Unit) × List Int × List (ByteArray × List Int × Bool × Unit) × Unit) : Option ((Bool × Unit) × Unit) := bindD (C_impl_from D (↑(List.length (Prod.fst v1_0)) : Int) 1 5) fun b ↦ br (Prod.fst (Prod.fst b)) (bindD (C_impl_placesOk D v1_0 (Prod.fst (Prod.snd v1_0)) 4) fun b ↦ br (Prod.fst (Prod.fst b)) (bindD (C_slices_ContainsFunc_int_int D (Prod.fst (Prod.snd v1_0)) (Clo.mk 84 [CapV.rptr (Ty.pair (Ty.sl (Ty.pair Ty.str (Ty.pair (Ty.int IntKind.i64) (Ty.pair Ty.bool Ty.unit)))) (Ty.pair (Ty.sl (Ty.int IntKind.i64)) (Ty.pair (Ty.sl (Ty.pair Ty.str (Ty.pair (Ty.sl (Ty.int IntKind.i64)) (Ty.pair Ty.bool Ty.unit)))) Ty.unit))) v1_0])) fun b ↦ some ((bif !Prod.fst (Prod.fst b) then decide ((↑(List.length (Prod.fst (Prod.snd (Prod.snd v1_0)))) : Int) ≤ 3) else false, ()), ())) (some ((false, ()), ()))) (some ((false, ()), ()))
noncomputable def impl_SchemaOk_LP1 (D : Den ctx) (n : Nat) : (List (ByteArray × List Int × Bool × Unit)) → (Int) → (Int) → (List (ByteArray × Int × Bool × Unit) × List Int × List (ByteArray × List Int × Bool × Unit) × Unit) → Option ((Bool × Unit) × Unit) := (fun x1_0 x1_1 x1_2 x1_3 => impl_SchemaOk_L1 D n (fun v0_0 v0_1 => impl_SchemaOk_x1_0 D n v0_0 v0_1) (fun v1_0 => impl_SchemaOk_x1_1 D n v1_0) n x1_0 x1_1 x1_2 x1_3)
noncomputable def impl_SchemaOk_x0_1 (D : Den ctx) (n : Nat) (lp1 : List (ByteArray × List Int × Bool × Unit) → Int → Int → List (ByteArray × Int × Bool × Unit) × List Int × List (ByteArray × List Int × Bool × Unit) × Unit → Option ((Bool × Unit) × Unit)) (v1_0 : List (ByteArray × Int × Bool × Unit) × List Int × List (ByteArray × List Int × Bool × Unit) × Unit) : Option ((Bool × Unit) × Unit) := lp1 (Prod.fst (Prod.snd (Prod.snd v1_0))) (↑(List.length (Prod.fst (Prod.snd (Prod.snd v1_0)))) : Int) 0 v1_0
noncomputable def impl_SchemaOk_LP0 (D : Den ctx) (n : Nat) : (List (ByteArray × Int × Bool × Unit)) → (Int) → (Int) → (List (ByteArray × Int × Bool × Unit) × List Int × List (ByteArray × List Int × Bool × Unit) × Unit) → Option ((Bool × Unit) × Unit) := (fun x0 x1 x2 x3 => impl_SchemaOk_L0 D n (fun v0_0 v0_1 => impl_SchemaOk_x0_0 D n v0_0 v0_1) (fun v1_0 => impl_SchemaOk_x0_1 D n (impl_SchemaOk_LP1 D n) v1_0) n x0 x1 x2 x3)
noncomputable def impl_SchemaOk_e (D : Den ctx) (n : Nat) (lp0 : List (ByteArray × Int × Bool × Unit) → Int → Int → List (ByteArray × Int × Bool × Unit) × List Int × List (ByteArray × List Int × Bool × Unit) × Unit → Option ((Bool × Unit) × Unit)) (a0 : List (ByteArray × Int × Bool × Unit) × List Int × List (ByteArray × List Int × Bool × Unit) × Unit) : Option ((Bool × Unit) × Unit) := lp0 (Prod.fst a0) (↑(List.length (Prod.fst a0)) : Int) 0 a0
noncomputable def F_impl_SchemaOk (D : Den ctx) (n : Nat) (a0 : List (ByteArray × Int × Bool × Unit) × List Int × List (ByteArray × List Int × Bool × Unit) × Unit) : Option ((Bool × Unit) × Unit) := impl_SchemaOk_e D n (impl_SchemaOk_LP0 D n) a0
def impl_SchemaOk_Q0 (x0 : List (ByteArray × Int × Bool × Unit)) (x1 : Int) (x2 : Int) (x3 : List (ByteArray × Int × Bool × Unit) × List Int × List (ByteArray × List Int × Bool × Unit) × Unit) : St := stq 85 [(1, AV.addr 1 []), (8, AV.val (Ty.sl (Ty.pair Ty.str (Ty.pair (Ty.int IntKind.i64) (Ty.pair Ty.bool Ty.unit)))) x0), (9, AV.val (Ty.int IntKind.i64) x1), (10, AV.val (Ty.int IntKind.i64) x2)] [(1, Root.mk (Ty.pair (Ty.sl (Ty.pair Ty.str (Ty.pair (Ty.int IntKind.i64) (Ty.pair Ty.bool Ty.unit)))) (Ty.pair (Ty.sl (Ty.int IntKind.i64)) (Ty.pair (Ty.sl (Ty.pair Ty.str (Ty.pair (Ty.sl (Ty.int IntKind.i64)) (Ty.pair Ty.bool Ty.unit)))) Ty.unit))) Mk.no x3 true)]
def impl_SchemaOk_Q0_0 (v0_0 : Bool) (v0_1 : List (ByteArray × Int × Bool × Unit) × List Int × List (ByteArray × List Int × Bool × Unit) × Unit) : St := stq 85 [(1, AV.addr 1 []), (2, AV.val Ty.bool v0_0)] [(1, Root.mk (Ty.pair (Ty.sl (Ty.pair Ty.str (Ty.pair (Ty.int IntKind.i64) (Ty.pair Ty.bool Ty.unit)))) (Ty.pair (Ty.sl (Ty.int IntKind.i64)) (Ty.pair (Ty.sl (Ty.pair Ty.str (Ty.pair (Ty.sl (Ty.int IntKind.i64)) (Ty.pair Ty.bool Ty.unit)))) Ty.unit))) Mk.no v0_1 true)]
def impl_SchemaOk_Q0_1 (v1_0 : List (ByteArray × Int × Bool × Unit) × List Int × List (ByteArray × List Int × Bool × Unit) × Unit) : St := stq 85 [(1, AV.addr 1 [])] [(1, Root.mk (Ty.pair (Ty.sl (Ty.pair Ty.str (Ty.pair (Ty.int IntKind.i64) (Ty.pair Ty.bool Ty.unit)))) (Ty.pair (Ty.sl (Ty.int IntKind.i64)) (Ty.pair (Ty.sl (Ty.pair Ty.str (Ty.pair (Ty.sl (Ty.int IntKind.i64)) (Ty.pair Ty.bool Ty.unit)))) Ty.unit))) Mk.no v1_0 true)]
def impl_SchemaOk_Q1 (x1_0 : List (ByteArray × List Int × Bool × Unit)) (x1_1 : Int) (x1_2 : Int) (x1_3 : List (ByteArray × Int × Bool × Unit) × List Int × List (ByteArray × List Int × Bool × Unit) × Unit) : St := stq 85 [(1, AV.addr 1 []), (35, AV.val (Ty.sl (Ty.pair Ty.str (Ty.pair (Ty.sl (Ty.int IntKind.i64)) (Ty.pair Ty.bool Ty.unit)))) x1_0), (36, AV.val (Ty.int IntKind.i64) x1_1), (37, AV.val (Ty.int IntKind.i64) x1_2)] [(1, Root.mk (Ty.pair (Ty.sl (Ty.pair Ty.str (Ty.pair (Ty.int IntKind.i64) (Ty.pair Ty.bool Ty.unit)))) (Ty.pair (Ty.sl (Ty.int IntKind.i64)) (Ty.pair (Ty.sl (Ty.pair Ty.str (Ty.pair (Ty.sl (Ty.int IntKind.i64)) (Ty.pair Ty.bool Ty.unit)))) Ty.unit))) Mk.no x1_3 true)]
def impl_SchemaOk_Q1_0 (v0_0 : Bool) (v0_1 : List (ByteArray × Int × Bool × Unit) × List Int × List (ByteArray × List Int × Bool × Unit) × Unit) : St := stq 85 [(1, AV.addr 1 []), (2, AV.val Ty.bool v0_0)] [(1, Root.mk (Ty.pair (Ty.sl (Ty.pair Ty.str (Ty.pair (Ty.int IntKind.i64) (Ty.pair Ty.bool Ty.unit)))) (Ty.pair (Ty.sl (Ty.int IntKind.i64)) (Ty.pair (Ty.sl (Ty.pair Ty.str (Ty.pair (Ty.sl (Ty.int IntKind.i64)) (Ty.pair Ty.bool Ty.unit)))) Ty.unit))) Mk.no v0_1 true)]
def impl_SchemaOk_Q1_1 (v1_0 : List (ByteArray × Int × Bool × Unit) × List Int × List (ByteArray × List Int × Bool × Unit) × Unit) : St := stq 85 [(1, AV.addr 1 [])] [(1, Root.mk (Ty.pair (Ty.sl (Ty.pair Ty.str (Ty.pair (Ty.int IntKind.i64) (Ty.pair Ty.bool Ty.unit)))) (Ty.pair (Ty.sl (Ty.int IntKind.i64)) (Ty.pair (Ty.sl (Ty.pair Ty.str (Ty.pair (Ty.sl (Ty.int IntKind.i64)) (Ty.pair Ty.bool Ty.unit)))) Ty.unit))) Mk.no v1_0 true)]
theorem impl_SchemaOk_SB0 (D : Den ctx) (n : Nat) (m : Nat) (K : Ex → St → Option (Out ctx 18)) (x0 : List (ByteArray × Int × Bool × Unit)) (x1 : Int) (x2 : Int) (x3 : List (ByteArray × Int × Bool × Unit) × List Int × List (ByteArray × List Int × Bool × Unit) × Unit) :
  LQ funcTab D n 18 [.r, .l, .r, .l] (m + 1) (impl_SchemaOk_Q0 x0 x1 x2 x3) K = impl_SchemaOk_b0 D n (fun x0 x1 x2 x3 => LQ funcTab D n 18 [.r, .l, .r, .l] m (impl_SchemaOk_Q0 x0 x1 x2 x3) K) (fun v0_0 v0_1 => K (Ex.ret) (impl_SchemaOk_Q0_0 v0_0 v0_1)) (fun v1_0 => K (Ex.exit 0) (impl_SchemaOk_Q0_1 v1_0)) x0 x1 x2 x3 := by kernel_rfl
theorem impl_SchemaOk_EL0 (D : Den ctx) (n : Nat) (K : Ex → St → Option (Out ctx 18)) : ∀ (m : Nat) (x0 : List (ByteArray × Int × Bool × Unit)) (x1 : Int) (x2 : Int) (x3 : List (ByteArray × Int × Bool × Unit) × List Int × List (ByteArray × List Int × Bool × Unit) × Unit), LQ funcTab D n 18 [.r, .l, .r, .l] m (impl_SchemaOk_Q0 x0 x1 x2 x3) K = impl_SchemaOk_L0 D n (fun v0_0 v0_1 => K (Ex.ret) (impl_SchemaOk_Q0_0 v0_0 v0_1)) (fun v1_0 => K (Ex.exit 0) (impl_SchemaOk_Q0_1 v1_0)) m x0 x1 x2 x3
  | 0, x0, x1, x2, x3 => LQ_zero ..
  | m + 1, x0, x1, x2, x3 => by
    have ih : (fun x0 x1 x2 x3 => LQ funcTab D n 18 [.r, .l, .r, .l] m (impl_SchemaOk_Q0 x0 x1 x2 x3) K) = impl_SchemaOk_L0 D n (fun v0_0 v0_1 => K (Ex.ret) (impl_SchemaOk_Q0_0 v0_0 v0_1)) (fun v1_0 => K (Ex.exit 0) (impl_SchemaOk_Q0_1 v1_0)) m := by funext x0 x1 x2 x3; exact impl_SchemaOk_EL0 D n K m x0 x1 x2 x3
    rw [impl_SchemaOk_SB0]
    rw [ih]; rfl
theorem impl_SchemaOk_SB1 (D : Den ctx) (n : Nat) (m : Nat) (K : Ex → St → Option (Out ctx 18)) (x1_0 : List (ByteArray × List Int × Bool × Unit)) (x1_1 : Int) (x1_2 : Int) (x1_3 : List (ByteArray × Int × Bool × Unit) × List Int × List (ByteArray × List Int × Bool × Unit) × Unit) :
  LQ funcTab D n 18 [.r, .r, .l, .r, .l] (m + 1) (impl_SchemaOk_Q1 x1_0 x1_1 x1_2 x1_3) K = impl_SchemaOk_b1 D n (fun x1_0 x1_1 x1_2 x1_3 => LQ funcTab D n 18 [.r, .r, .l, .r, .l] m (impl_SchemaOk_Q1 x1_0 x1_1 x1_2 x1_3) K) (fun v0_0 v0_1 => K (Ex.ret) (impl_SchemaOk_Q1_0 v0_0 v0_1)) (fun v1_0 => K (Ex.exit 2) (impl_SchemaOk_Q1_1 v1_0)) x1_0 x1_1 x1_2 x1_3 := by kernel_rfl
theorem impl_SchemaOk_EL1 (D : Den ctx) (n : Nat) (K : Ex → St → Option (Out ctx 18)) : ∀ (m : Nat) (x1_0 : List (ByteArray × List Int × Bool × Unit)) (x1_1 : Int) (x1_2 : Int) (x1_3 : List (ByteArray × Int × Bool × Unit) × List Int × List (ByteArray × List Int × Bool × Unit) × Unit), LQ funcTab D n 18 [.r, .r, .l, .r, .l] m (impl_SchemaOk_Q1 x1_0 x1_1 x1_2 x1_3) K = impl_SchemaOk_L1 D n (fun v0_0 v0_1 => K (Ex.ret) (impl_SchemaOk_Q1_0 v0_0 v0_1)) (fun v1_0 => K (Ex.exit 2) (impl_SchemaOk_Q1_1 v1_0)) m x1_0 x1_1 x1_2 x1_3
  | 0, x1_0, x1_1, x1_2, x1_3 => LQ_zero ..
  | m + 1, x1_0, x1_1, x1_2, x1_3 => by
    have ih : (fun x1_0 x1_1 x1_2 x1_3 => LQ funcTab D n 18 [.r, .r, .l, .r, .l] m (impl_SchemaOk_Q1 x1_0 x1_1 x1_2 x1_3) K) = impl_SchemaOk_L1 D n (fun v0_0 v0_1 => K (Ex.ret) (impl_SchemaOk_Q1_0 v0_0 v0_1)) (fun v1_0 => K (Ex.exit 2) (impl_SchemaOk_Q1_1 v1_0)) m := by funext x1_0 x1_1 x1_2 x1_3; exact impl_SchemaOk_EL1 D n K m x1_0 x1_1 x1_2 x1_3
    rw [impl_SchemaOk_SB1]
    rw [ih]; rfl
theorem impl_SchemaOk_X1_0 (D : Den ctx) (n : Nat) (v0_0 : Bool) (v0_1 : List (ByteArray × Int × Bool × Unit) × List Int × List (ByteArray × List Int × Bool × Unit) × Unit) :
  (CQ funcTab D n 18 [] [.r, .r, .l, .r, .l] (lastK funcTab 18)) (Ex.ret) (impl_SchemaOk_Q1_0 v0_0 v0_1) = impl_SchemaOk_x1_0 D n v0_0 v0_1 := by kernel_rfl
theorem impl_SchemaOk_X1_1 (D : Den ctx) (n : Nat) (v1_0 : List (ByteArray × Int × Bool × Unit) × List Int × List (ByteArray × List Int × Bool × Unit) × Unit) :
  (CQ funcTab D n 18 [] [.r, .r, .l, .r, .l] (lastK funcTab 18)) (Ex.exit 2) (impl_SchemaOk_Q1_1 v1_0) = impl_SchemaOk_x1_1 D n v1_0 := by kernel_rfl
theorem impl_SchemaOk_ELP1 (D : Den ctx) (n : Nat) (x1_0 : List (ByteArray × List Int × Bool × Unit)) (x1_1 : Int) (x1_2 : Int) (x1_3 : List (ByteArray × Int × Bool × Unit) × List Int × List (ByteArray × List Int × Bool × Unit) × Unit) :
  LQ funcTab D n 18 [.r, .r, .l, .r, .l] n (impl_SchemaOk_Q1 x1_0 x1_1 x1_2 x1_3) (CQ funcTab D n 18 [] [.r, .r, .l, .r, .l] (lastK funcTab 18)) = impl_SchemaOk_LP1 D n x1_0 x1_1 x1_2 x1_3 := by
  rw [impl_SchemaOk_EL1]
  simp only [impl_SchemaOk_X1_0, impl_SchemaOk_X1_1]
  rfl
theorem impl_SchemaOk_X0_0 (D : Den ctx) (n : Nat) (v0_0 : Bool) (v0_1 : List (ByteArray × Int × Bool × Unit) × List Int × List (ByteArray × List Int × Bool × Unit) × Unit) :
  (CQ funcTab D n 18 [] [.r, .l, .r, .l] (lastK funcTab 18)) (Ex.ret) (impl_SchemaOk_Q0_0 v0_0 v0_1) = impl_SchemaOk_x0_0 D n v0_0 v0_1 := by kernel_rfl
theorem impl_SchemaOk_X0_1 (D : Den ctx) (n : Nat) (v1_0 : List (ByteArray × Int × Bool × Unit) × List Int × List (ByteArray × List Int × Bool × Unit) × Unit) :
  (CQ funcTab D n 18 [] [.r, .l, .r, .l] (lastK funcTab 18)) (Ex.exit 0) (impl_SchemaOk_Q0_1 v1_0) = impl_SchemaOk_x0_1 D n (fun x1_0 x1_1 x1_2 x1_3 => LQ funcTab D n 18 [.r, .r, .l, .r, .l] n (impl_SchemaOk_Q1 x1_0 x1_1 x1_2 x1_3) (CQ funcTab D n 18 [] [.r, .r, .l, .r, .l] (lastK funcTab 18))) v1_0 := by kernel_rfl
theorem impl_SchemaOk_ELP0 (D : Den ctx) (n : Nat) (x0 : List (ByteArray × Int × Bool × Unit)) (x1 : Int) (x2 : Int) (x3 : List (ByteArray × Int × Bool × Unit) × List Int × List (ByteArray × List Int × Bool × Unit) × Unit) :
  LQ funcTab D n 18 [.r, .l, .r, .l] n (impl_SchemaOk_Q0 x0 x1 x2 x3) (CQ funcTab D n 18 [] [.r, .l, .r, .l] (lastK funcTab 18)) = impl_SchemaOk_LP0 D n x0 x1 x2 x3 := by
  rw [impl_SchemaOk_EL0]
  simp only [impl_SchemaOk_X0_0, impl_SchemaOk_X0_1, impl_SchemaOk_ELP1]
  rfl
theorem E_impl_SchemaOk (D : Den ctx) (n : Nat) (a0 : List (ByteArray × Int × Bool × Unit) × List Int × List (ByteArray × List Int × Bool × Unit) × Unit) : rfC funcTab D n 18 (a0, ()) = F_impl_SchemaOk D n a0 := by
  have h : rfC funcTab D n 18 (a0, ()) = impl_SchemaOk_e D n (fun x0 x1 x2 x3 => LQ funcTab D n 18 [.r, .l, .r, .l] n (impl_SchemaOk_Q0 x0 x1 x2 x3) (CQ funcTab D n 18 [] [.r, .l, .r, .l] (lastK funcTab 18))) a0 := by kernel_rfl
  rw [h]
  simp only [impl_SchemaOk_ELP0]
  rfl
end Go.G

namespace Go.G
set_option maxRecDepth 100000
set_option maxHeartbeats 0
open Go Go.V
noncomputable def laws_eqSchema_e (D : Den ctx) (n : Nat) (a0 : List (ByteArray × Int × Bool × Unit) × List Int × List (ByteArray × List Int × Bool × Unit) × Unit) (a1 : List (ByteArray × Int × Bool × Unit) × List Int × List (ByteArray × List Int × Bool × Unit) × Unit) : Option ((Bool × Unit) × Unit) := bindD (C_laws_eqColS D (Prod.fst a0) (Prod.fst a1)) fun b ↦ br (!Prod.fst (Prod.fst b)) (some ((false, ()), ())) (bindD (C_laws_eqIntS D (Prod.fst (Prod.snd a0)) (Prod.fst (Prod.snd a1))) fun b ↦ br (!Prod.fst (Prod.fst b)) (some ((false, ()), ())) (bindD (C_laws_eqIndexS D (Prod.fst (Prod.snd (Prod.snd a0))) (Prod.fst (Prod.snd (Prod.snd a1)))) fun b ↦ br (!Prod.fst (Prod.fst b)) (some ((false, ()), ())) (some ((true, ()), ()))))
noncomputable def F_laws_eqSchema (D : Den ctx) (n : Nat) (a0 : List (ByteArray × Int × Bool × Unit) × List Int × List (ByteArray × List Int × Bool × Unit) × Unit) (a1 : List (ByteArray × Int × Bool × Unit) × List Int × List (ByteArray × List Int × Bool × Unit) × Unit) : Option ((Bool × Unit) × Unit) := laws_eqSchema_e D n a0 a1
theorem E_laws_eqSchema (D : Den ctx) (n : Nat) (a0 : List (ByteArray × Int × Bool × Unit) × List Int × List (ByteArray × List Int × Bool × Unit) × Unit) (a1 : List (ByteArray × Int × Bool × Unit) × List Int × List (ByteArray × List Int × Bool × Unit) × Unit) : rfC funcTab D n 19 (a0, (a1, ())) = F_laws_eqSchema D n a0 a1 := by kernel_rfl
end Go.G

namespace Go.G
set_option maxRecDepth 100000
set_option maxHeartbeats 0
open Go Go.V
noncomputable def impl_RowOk_b0 (D : Den ctx) (n : Nat) (go : List (Int × Int × ByteArray × Unit) → Int → Int → List (ByteArray × Int × Bool × Unit) × List Int × List (ByteArray × List Int × Bool × Unit) × Unit → Option ((Bool × Unit) × Unit)) (K0 : Bool → Option ((Bool × Unit) × Unit)) (K1 : Option ((Bool × Unit) × Unit)) (x0 : List (Int × Int × ByteArray × Unit)) (x1 : Int) (x2 : Int) (x3 : List (ByteArray × Int × Bool × Unit) × List Int × List (ByteArray × List Int × Bool × Unit) × Unit) : Option ((Bool × Unit) × Unit) := br (decide (x2 < x1)) (br (decide (0 ≤ x2) && decide (x2 < (↑(List.length x0) : Int))) (br (decide (0 ≤ x2) && decide (x2 < (↑(List.length (Prod.fst x3)) : Int))) (bindD (C_impl_ValueOk D (List.getD x0 (Int.toNat x2) (0, 0, ByteArray.empty, ()))) fun b ↦ br (bif !Prod.fst (Prod.fst b) then true else bif Prod.fst (List.getD x0 (Int.toNat x2) (0, 0, ByteArray.empty, ())) != Prod.fst (Prod.snd (List.getD (Prod.fst x3) (Int.toNat x2) (ByteArray.empty, 0, false, ()))) then !bif decide (Prod.fst (List.getD x0 (Int.toNat x2) (0, 0, ByteArray.empty, ())) = 0) then Prod.fst (Prod.snd (Prod.snd (List.getD (Prod.fst x3) (Int.toNat x2) (ByteArray.empty, 0, false, ())))) else false else false) (K0 false) (go x0 x1 (IntKind.wrap IntKind.i64 (x2 + 1)) x3)) none) none) K1
noncomputable def impl_RowOk_L0 (D : Den ctx) (n : Nat) (K0 : Bool → Option ((Bool × Unit) × Unit)) (K1 : Option ((Bool × Unit) × Unit)) : Nat → (List (Int × Int × ByteArray × Unit)) → (Int) → (Int) → (List (ByteArray × Int × Bool × Unit) × List Int × List (ByteArray × List Int × Bool × Unit) × Unit) → Option ((Bool × Unit) × Unit) | 0 => (fun x0 x1 x2 x3 => none) | m + 1 => (fun x0 x1 x2 x3 => impl_RowOk_b0 D n (impl_RowOk_L0 D n K0 K1 m) K0 K1 x0 x1 x2 x3)
noncomputable def impl_RowOk_x0_0 (D : Den ctx) (n : Nat) (v0_0 : Bool) : Option ((Bool × Unit) × Unit) := some ((v0_0, ()), ())
noncomputable def impl_RowOk_x0_1 (D : Den ctx) (n : Nat) : Option ((Bool × Unit) × Unit) := some ((true, ()), ())
noncomputable def impl_RowOk_LP0 (D : Den ctx) (n : Nat) : (List (Int × Int × ByteArray × Unit)) → (Int) → (Int) → (List (ByteArray × Int × Bool × Unit) × List Int × List (ByteArray × List Int × Bool × Unit) × Unit) → Option ((Bool × Unit) × Unit) := (fun x0 x1 x2 x3 => impl_RowOk_L0 D n (fun v0_0 => impl_RowOk_x0_0 D n v0_0) (impl_RowOk_x0_1 D n) n x0 x1 x2 x3)
noncomputable def impl_RowOk_e (D : Den ctx) (n : Nat) (lp0 : List (Int × Int × ByteArray × Unit) → Int → Int → List (ByteArray × Int × Bool × Unit) × List Int × List (ByteArray × List Int × Bool × Unit) × Unit → Option ((Bool × Unit) × Unit)) (a0 : List (ByteArray × Int × Bool × Unit) × List Int × List (ByteArray × List Int × Bool × Unit) × Unit) (a1 : List (Int × Int × ByteArray × Unit)) : Option ((Bool × Unit) × Unit) := bindD (C_impl_SchemaOk D a0) fun b ↦ br (bif !Prod.fst (Prod.fst b) then true else (↑(List.length a1) : Int) != (↑(List.length (Prod.fst a0)) : Int)) (some ((false, ()), ())) (lp0 a1 (↑(List.length a1) : Int) 0 a0)
noncomputable def F_impl_RowOk (D : Den ctx) (n : Nat) (a0 : List (ByteArray × Int × Bool × Unit) × List Int × List (ByteArray × List Int × Bool × Unit) × Unit) (a1 : List (Int × Int × ByteArray × Unit)) : Option ((Bool × Unit) × Unit) := impl_RowOk_e D n (impl_RowOk_LP0 D n) a0 a1
def impl_RowOk_Q0 (x0 : List (Int × Int × ByteArray × Unit)) (x1 : Int) (x2 : Int) (x3 : List (ByteArray × Int × Bool × Unit) × List Int × List (ByteArray × List Int × Bool × Unit) × Unit) : St := stq 52 [(2, AV.addr 2 []), (19, AV.val (Ty.sl (Ty.pair (Ty.int IntKind.i64) (Ty.pair (Ty.int IntKind.i64) (Ty.pair Ty.str Ty.unit)))) x0), (20, AV.val (Ty.int IntKind.i64) x1), (21, AV.val (Ty.int IntKind.i64) x2)] [(2, Root.mk (Ty.pair (Ty.sl (Ty.pair Ty.str (Ty.pair (Ty.int IntKind.i64) (Ty.pair Ty.bool Ty.unit)))) (Ty.pair (Ty.sl (Ty.int IntKind.i64)) (Ty.pair (Ty.sl (Ty.pair Ty.str (Ty.pair (Ty.sl (Ty.int IntKind.i64)) (Ty.pair Ty.bool Ty.unit)))) Ty.unit))) Mk.no x3 true)]
def impl_RowOk_Q0_0 (v0_0 : Bool) : St := stq 52 [(4, AV.val Ty.bool v0_0)] []
def impl_RowOk_Q0_1 : St := stq 52 [] []
theorem impl_RowOk_SB0 (D : Den ctx) (n : Nat) (m : Nat) (K : Ex → St → Option (Out ctx 26)) (x0 : List (Int × Int × ByteArray × Unit)) (x1 : Int) (x2 : Int) (x3 : List (ByteArray × Int × Bool × Unit) × List Int × List (ByteArray × List Int × Bool × Unit) × Unit) :
  LQ funcTab D n 26 [.r, .r, .l, .r, .l] (m + 1) (impl_RowOk_Q0 x0 x1 x2 x3) K = impl_RowOk_b0 D n (fun x0 x1 x2 x3 => LQ funcTab D n 26 [.r, .r, .l, .r, .l] m (impl_RowOk_Q0 x0 x1 x2 x3) K) (fun v0_0 => K (Ex.ret) (impl_RowOk_Q0_0 v0_0)) (K (Ex.exit 0) (impl_RowOk_Q0_1)) x0 x1 x2 x3 := by kernel_rfl
theorem impl_RowOk_EL0 (D : Den ctx) (n : Nat) (K : Ex → St → Option (Out ctx 26)) : ∀ (m : Nat) (x0 : List (Int × Int × ByteArray × Unit)) (x1 : Int) (x2 : Int) (x3 : List (ByteArray × Int × Bool × Unit) × List Int × List (ByteArray × List Int × Bool × Unit) × Unit), LQ funcTab D n 26 [.r, .r, .l, .r, .l] m (impl_RowOk_Q0 x0 x1 x2 x3) K = impl_RowOk_L0 D n (fun v0_0 => K (Ex.ret) (impl_RowOk_Q0_0 v0_0)) (K (Ex.exit 0) (impl_RowOk_Q0_1)) m x0 x1 x2 x3
  | 0, x0, x1, x2, x3 => LQ_zero ..
  | m + 1, x0, x1, x2, x3 => by
    have ih : (fun x0 x1 x2 x3 => LQ funcTab D n 26 [.r, .r, .l, .r, .l] m (impl_RowOk_Q0 x0 x1 x2 x3) K) = impl_RowOk_L0 D n (fun v0_0 => K (Ex.ret) (impl_RowOk_Q0_0 v0_0)) (K (Ex.exit 0) (impl_RowOk_Q0_1)) m := by funext x0 x1 x2 x3; exact impl_RowOk_EL0 D n K m x0 x1 x2 x3
    rw [impl_RowOk_SB0]
    rw [ih]; rfl
theorem impl_RowOk_X0_0 (D : Den ctx) (n : Nat) (v0_0 : Bool) :
  (CQ funcTab D n 26 [] [.r, .r, .l, .r, .l] (lastK funcTab 26)) (Ex.ret) (impl_RowOk_Q0_0 v0_0) = impl_RowOk_x0_0 D n v0_0 := by kernel_rfl
theorem impl_RowOk_X0_1 (D : Den ctx) (n : Nat) :
  (CQ funcTab D n 26 [] [.r, .r, .l, .r, .l] (lastK funcTab 26)) (Ex.exit 0) (impl_RowOk_Q0_1) = impl_RowOk_x0_1 D n := by kernel_rfl
theorem impl_RowOk_ELP0 (D : Den ctx) (n : Nat) (x0 : List (Int × Int × ByteArray × Unit)) (x1 : Int) (x2 : Int) (x3 : List (ByteArray × Int × Bool × Unit) × List Int × List (ByteArray × List Int × Bool × Unit) × Unit) :
  LQ funcTab D n 26 [.r, .r, .l, .r, .l] n (impl_RowOk_Q0 x0 x1 x2 x3) (CQ funcTab D n 26 [] [.r, .r, .l, .r, .l] (lastK funcTab 26)) = impl_RowOk_LP0 D n x0 x1 x2 x3 := by
  rw [impl_RowOk_EL0]
  simp only [impl_RowOk_X0_0, impl_RowOk_X0_1]
  rfl
theorem E_impl_RowOk (D : Den ctx) (n : Nat) (a0 : List (ByteArray × Int × Bool × Unit) × List Int × List (ByteArray × List Int × Bool × Unit) × Unit) (a1 : List (Int × Int × ByteArray × Unit)) : rfC funcTab D n 26 (a0, (a1, ())) = F_impl_RowOk D n a0 a1 := by
  have h : rfC funcTab D n 26 (a0, (a1, ())) = impl_RowOk_e D n (fun x0 x1 x2 x3 => LQ funcTab D n 26 [.r, .r, .l, .r, .l] n (impl_RowOk_Q0 x0 x1 x2 x3) (CQ funcTab D n 26 [] [.r, .r, .l, .r, .l] (lastK funcTab 26))) a0 a1 := by kernel_rfl
  rw [h]
  simp only [impl_RowOk_ELP0]
  rfl
end Go.G

namespace Go.G
set_option maxRecDepth 100000
set_option maxHeartbeats 0
open Go Go.V
noncomputable def spec_RowOk_b0 (D : Den ctx) (n : Nat) (go : List (Int × Int × ByteArray × Unit) → Int → List (ByteArray × Int × Bool × Unit) × List Int × List (ByteArray × List Int × Bool × Unit) × Unit → Option ((Bool × Unit) × Unit)) (K0 : Bool → Option ((Bool × Unit) × Unit)) (K1 : Option ((Bool × Unit) × Unit)) (x0 : List (Int × Int × ByteArray × Unit)) (x1 : Int) (x2 : List (ByteArray × Int × Bool × Unit) × List Int × List (ByteArray × List Int × Bool × Unit) × Unit) : Option ((Bool × Unit) × Unit) := br (decide (x1 < (↑(List.length x0) : Int))) (br (decide (0 ≤ x1) && decide (x1 < (↑(List.length x0) : Int))) (bindD (C_spec_ValueOk D (List.getD x0 (Int.toNat x1) (0, 0, ByteArray.empty, ()))) fun b ↦ br (!Prod.fst (Prod.fst b)) (K0 false) (br (decide (0 ≤ x1) && decide (x1 < (↑(List.length x0) : Int))) (br (decide (0 ≤ x1) && decide (x1 < (↑(List.length (Prod.fst x2)) : Int))) (br (Prod.fst (List.getD x0 (Int.toNat x1) (0, 0, ByteArray.empty, ())) != Prod.fst (Prod.snd (List.getD (Prod.fst x2) (Int.toNat x1) (ByteArray.empty, 0, false, ())))) (br (decide (0 ≤ x1) && decide (x1 < (↑(List.length (Prod.fst x2)) : Int))) (br (Prod.fst (Prod.snd (Prod.snd (List.getD (Prod.fst x2) (Int.toNat x1) (ByteArray.empty, 0, false, ()))))) (br (decide (0 ≤ x1) && decide (x1 < (↑(List.length x0) : Int))) (br (!decide (Prod.fst (List.getD x0 (Int.toNat x1) (0, 0, ByteArray.empty, ())) = 0)) (K0 false) (go x0 (IntKind.wrap IntKind.i64 (x1 + 1)) x2)) none) (K0 false)) none) (go x0 (IntKind.wrap IntKind.i64 (x1 + 1)) x2)) none) none)) none) K1
noncomputable def spec_RowOk_L0 (D : Den ctx) (n : Nat) (K0 : Bool → Option ((Bool × Unit) × Unit)) (K1 : Option ((Bool × Unit) × Unit)) : Nat → (List (Int × Int × ByteArray × Unit)) → (Int) → (List (ByteArray × Int × Bool × Unit) × List Int × List (ByteArray × List Int × Bool × Unit) × Unit) → Option ((Bool × Unit) × Unit) | 0 => (fun x0 x1 x2 => none) | m + 1 => (fun x0 x1 x2 => spec_RowOk_b0 D n (spec_RowOk_L0 D n K0 K1 m) K0 K1 x0 x1 x2)
noncomputable def spec_RowOk_x0_0 (D : Den ctx) (n : Nat) (v0_0 : Bool) : Option ((Bool × Unit) × Unit) := some ((v0_0, ()), ())
noncomputable def spec_RowOk_x0_1 (D : Den ctx) (n : Nat) : Option ((Bool × Unit) × Unit) := some ((true, ()), ())
noncomputable def spec_RowOk_LP0 (D : Den ctx) (n : Nat) : (List (Int × Int × ByteArray × Unit)) → (Int) → (List (ByteArray × Int × Bool × Unit) × List Int × List (ByteArray × List Int × Bool × Unit) × Unit) → Option ((Bool × Unit) × Unit) := (fun x0 x1 x2 => spec_RowOk_L0 D n (fun v0_0 => spec_RowOk_x0_0 D n v0_0) (spec_RowOk_x0_1 D n) n x0 x1 x2)
noncomputable def spec_RowOk_e (D : Den ctx) (n : Nat) (lp0 : List (Int × Int × ByteArray × Unit) → Int → List (ByteArray × Int × Bool × Unit) × List Int × List (ByteArray × List Int × Bool × Unit) × Unit → Option ((Bool × Unit) × Unit)) (a0 : List (ByteArray × Int × Bool × Unit) × List Int × List (ByteArray × List Int × Bool × Unit) × Unit) (a1 : List (Int × Int × ByteArray × Unit)) : Option ((Bool × Unit) × Unit) := bindD (C_spec_SchemaOk D a0) fun b ↦ br (bif !Prod.fst (Prod.fst b) then true else (↑(List.length a1) : Int) != (↑(List.length (Prod.fst a0)) : Int)) (some ((false, ()), ())) (lp0 a1 0 a0)
noncomputable def F_spec_RowOk (D : Den ctx) (n : Nat) (a0 : List (ByteArray × Int × Bool × Unit) × List Int × List (ByteArray × List Int × Bool × Unit) × Unit) (a1 : List (Int × Int × ByteArray × Unit)) : Option ((Bool × Unit) × Unit) := spec_RowOk_e D n (spec_RowOk_LP0 D n) a0 a1
def spec_RowOk_Q0 (x0 : List (Int × Int × ByteArray × Unit)) (x1 : Int) (x2 : List (ByteArray × Int × Bool × Unit) × List Int × List (ByteArray × List Int × Bool × Unit) × Unit) : St := stq 60 [(1, AV.val (Ty.sl (Ty.pair (Ty.int IntKind.i64) (Ty.pair (Ty.int IntKind.i64) (Ty.pair Ty.str Ty.unit)))) x0), (2, AV.addr 2 []), (5, AV.val (Ty.int IntKind.i64) x1)] [(2, Root.mk (Ty.pair (Ty.sl (Ty.pair Ty.str (Ty.pair (Ty.int IntKind.i64) (Ty.pair Ty.bool Ty.unit)))) (Ty.pair (Ty.sl (Ty.int IntKind.i64)) (Ty.pair (Ty.sl (Ty.pair Ty.str (Ty.pair (Ty.sl (Ty.int IntKind.i64)) (Ty.pair Ty.bool Ty.unit)))) Ty.unit))) Mk.no x2 true)]
def spec_RowOk_Q0_0 (v0_0 : Bool) : St := stq 60 [(4, AV.val Ty.bool v0_0)] []
def spec_RowOk_Q0_1 : St := stq 60 [] []
theorem spec_RowOk_SB0 (D : Den ctx) (n : Nat) (m : Nat) (K : Ex → St → Option (Out ctx 27)) (x0 : List (Int × Int × ByteArray × Unit)) (x1 : Int) (x2 : List (ByteArray × Int × Bool × Unit) × List Int × List (ByteArray × List Int × Bool × Unit) × Unit) :
  LQ funcTab D n 27 [.r, .r, .l, .r, .l] (m + 1) (spec_RowOk_Q0 x0 x1 x2) K = spec_RowOk_b0 D n (fun x0 x1 x2 => LQ funcTab D n 27 [.r, .r, .l, .r, .l] m (spec_RowOk_Q0 x0 x1 x2) K) (fun v0_0 => K (Ex.ret) (spec_RowOk_Q0_0 v0_0)) (K (Ex.exit 0) (spec_RowOk_Q0_1)) x0 x1 x2 := by kernel_rfl
theorem spec_RowOk_EL0 (D : Den ctx) (n : Nat) (K : Ex → St → Option (Out ctx 27)) : ∀ (m : Nat) (x0 : List (Int × Int × ByteArray × Unit)) (x1 : Int) (x2 : List (ByteArray × Int × Bool × Unit) × List Int × List (ByteArray × List Int × Bool × Unit) × Unit), LQ funcTab D n 27 [.r, .r, .l, .r, .l] m (spec_RowOk_Q0 x0 x1 x2) K = spec_RowOk_L0 D n (fun v0_0 => K (Ex.ret) (spec_RowOk_Q0_0 v0_0)) (K (Ex.exit 0) (spec_RowOk_Q0_1)) m x0 x1 x2
  | 0, x0, x1, x2 => LQ_zero ..
  | m + 1, x0, x1, x2 => by
    have ih : (fun x0 x1 x2 => LQ funcTab D n 27 [.r, .r, .l, .r, .l] m (spec_RowOk_Q0 x0 x1 x2) K) = spec_RowOk_L0 D n (fun v0_0 => K (Ex.ret) (spec_RowOk_Q0_0 v0_0)) (K (Ex.exit 0) (spec_RowOk_Q0_1)) m := by funext x0 x1 x2; exact spec_RowOk_EL0 D n K m x0 x1 x2
    rw [spec_RowOk_SB0]
    rw [ih]; rfl
theorem spec_RowOk_X0_0 (D : Den ctx) (n : Nat) (v0_0 : Bool) :
  (CQ funcTab D n 27 [] [.r, .r, .l, .r, .l] (lastK funcTab 27)) (Ex.ret) (spec_RowOk_Q0_0 v0_0) = spec_RowOk_x0_0 D n v0_0 := by kernel_rfl
theorem spec_RowOk_X0_1 (D : Den ctx) (n : Nat) :
  (CQ funcTab D n 27 [] [.r, .r, .l, .r, .l] (lastK funcTab 27)) (Ex.exit 0) (spec_RowOk_Q0_1) = spec_RowOk_x0_1 D n := by kernel_rfl
theorem spec_RowOk_ELP0 (D : Den ctx) (n : Nat) (x0 : List (Int × Int × ByteArray × Unit)) (x1 : Int) (x2 : List (ByteArray × Int × Bool × Unit) × List Int × List (ByteArray × List Int × Bool × Unit) × Unit) :
  LQ funcTab D n 27 [.r, .r, .l, .r, .l] n (spec_RowOk_Q0 x0 x1 x2) (CQ funcTab D n 27 [] [.r, .r, .l, .r, .l] (lastK funcTab 27)) = spec_RowOk_LP0 D n x0 x1 x2 := by
  rw [spec_RowOk_EL0]
  simp only [spec_RowOk_X0_0, spec_RowOk_X0_1]
  rfl
theorem E_spec_RowOk (D : Den ctx) (n : Nat) (a0 : List (ByteArray × Int × Bool × Unit) × List Int × List (ByteArray × List Int × Bool × Unit) × Unit) (a1 : List (Int × Int × ByteArray × Unit)) : rfC funcTab D n 27 (a0, (a1, ())) = F_spec_RowOk D n a0 a1 := by
  have h : rfC funcTab D n 27 (a0, (a1, ())) = spec_RowOk_e D n (fun x0 x1 x2 => LQ funcTab D n 27 [.r, .r, .l, .r, .l] n (spec_RowOk_Q0 x0 x1 x2) (CQ funcTab D n 27 [] [.r, .r, .l, .r, .l] (lastK funcTab 27))) a0 a1 := by kernel_rfl
  rw [h]
  simp only [spec_RowOk_ELP0]
  rfl
end Go.G

namespace Go.G
set_option maxRecDepth 100000
set_option maxHeartbeats 0
open Go Go.V
noncomputable def impl_ColNameOk_b0 (D : Den ctx) (n : Nat) (go : ByteArray → Int → Int → Option ((Bool × Unit) × Unit)) (K0 : ByteArray → Bool → Option ((Bool × Unit) × Unit)) (K1 : ByteArray → Option ((Bool × Unit) × Unit)) (x0 : ByteArray) (x1 : Int) (x2 : Int) : Option ((Bool × Unit) × Unit) := br (decide (x2 < x1)) (br (decide (0 ≤ x2) && decide (x2 < (↑(ByteArray.size x0) : Int))) (br (decide ((↑(UInt8.toNat (Array.getD (ByteArray.data x0) (Int.toNat x2) (UInt8.ofNat 0))) : Int) < 97)) (K0 x0 false) (br (decide (0 ≤ x2) && decide (x2 < (↑(ByteArray.size x0) : Int))) (br (decide ((↑(UInt8.toNat (Array.getD (ByteArray.data x0) (Int.toNat x2) (UInt8.ofNat 0))) : Int) > 122)) (K0 x0 false) (go x0 x1 (IntKind.wrap IntKind.i64 (x2 + 1)))) none)) none) (K1 x0)
noncomputable def impl_ColNameOk_L0 (D : Den ctx) (n : Nat) (K0 : ByteArray → Bool → Option ((Bool × Unit) × Unit)) (K1 : ByteArray → Option ((Bool × Unit) × Unit)) : Nat → (ByteArray) → (Int) → (Int) → Option ((Bool × Unit) × Unit) | 0 => (fun x0 x1 x2 => none) | m + 1 => (fun x0 x1 x2 => impl_ColNameOk_b0 D n (impl_ColNameOk_L0 D n K0 K1 m) K0 K1 x0 x1 x2)
noncomputable def impl_ColNameOk_x0_0 (D : Den ctx) (n : Nat) (v0_0 : ByteArray) (v0_1 : Bool) : Option ((Bool × Unit) × Unit) := some ((v0_1, ()), ())
noncomputable def impl_ColNameOk_x0_1 (D : Den ctx) (n : Nat) (v1_0 : ByteArray) : Option ((Bool × Unit) × Unit) := bindD (C_impl_from D (↑(ByteArray.size v1_0) : Int) 1 12) fun b ↦ some ((Prod.fst (Prod.fst b), ()), ())
noncomputable def impl_ColNameOk_LP0 (D : Den ctx) (n : Nat) : (ByteArray) → (Int) → (Int) → Option ((Bool × Unit) × Unit) := (fun x0 x1 x2 => impl_ColNameOk_L0 D n (fun v0_0 v0_1 => impl_ColNameOk_x0_0 D n v0_0 v0_1) (fun v1_0 => impl_ColNameOk_x0_1 D n v1_0) n x0 x1 x2)
noncomputable def impl_ColNameOk_e (D : Den ctx) (n : Nat) (lp0 : ByteArray → Int → Int → Option ((Bool × Unit) × Unit)) (a0 : ByteArray) : Option ((Bool × Unit) × Unit) := lp0 a0 (↑(ByteArray.size a0) : Int) 0
noncomputable def F_impl_ColNameOk (D : Den ctx) (n : Nat) (a0 : ByteArray) : Option ((Bool × Unit) × Unit) := impl_ColNameOk_e D n (impl_ColNameOk_LP0 D n) a0
def impl_ColNameOk_Q0 (x0 : ByteArray) (x1 : Int) (x2 : Int) : St := stq 23 [(0, AV.val Ty.str x0), (5, AV.val (Ty.int IntKind.i64) x1), (6, AV.val (Ty.int IntKind.i64) x2)] []
def impl_ColNameOk_Q0_0 (v0_0 : ByteArray) (v0_1 : Bool) : St := stq 23 [(0, AV.val Ty.str v0_0), (2, AV.val Ty.bool v0_1)] []
def impl_ColNameOk_Q0_1 (v1_0 : ByteArray) : St := stq 23 [(0, AV.val Ty.str v1_0)] []
theorem impl_ColNameOk_SB0 (D : Den ctx) (n : Nat) (m : Nat) (K : Ex → St → Option (Out ctx 28)) (x0 : ByteArray) (x1 : Int) (x2 : Int) :
  LQ funcTab D n 28 [.r, .l, .r, .l] (m + 1) (impl_ColNameOk_Q0 x0 x1 x2) K = impl_ColNameOk_b0 D n (fun x0 x1 x2 => LQ funcTab D n 28 [.r, .l, .r, .l] m (impl_ColNameOk_Q0 x0 x1 x2) K) (fun v0_0 v0_1 => K (Ex.ret) (impl_ColNameOk_Q0_0 v0_0 v0_1)) (fun v1_0 => K (Ex.exit 0) (impl_ColNameOk_Q0_1 v1_0)) x0 x1 x2 := by kernel_rfl
theorem impl_ColNameOk_EL0 (D : Den ctx) (n : Nat) (K : Ex → St → Option (Out ctx 28)) : ∀ (m : Nat) (x0 : ByteArray) (x1 : Int) (x2 : Int), LQ funcTab D n 28 [.r, .l, .r, .l] m (impl_ColNameOk_Q0 x0 x1 x2) K = impl_ColNameOk_L0 D n (fun v0_0 v0_1 => K (Ex.ret) (impl_ColNameOk_Q0_0 v0_0 v0_1)) (fun v1_0 => K (Ex.exit 0) (impl_ColNameOk_Q0_1 v1_0)) m x0 x1 x2
  | 0, x0, x1, x2 => LQ_zero ..
  | m + 1, x0, x1, x2 => by
    have ih : (fun x0 x1 x2 => LQ funcTab D n 28 [.r, .l, .r, .l] m (impl_ColNameOk_Q0 x0 x1 x2) K) = impl_ColNameOk_L0 D n (fun v0_0 v0_1 => K (Ex.ret) (impl_ColNameOk_Q0_0 v0_0 v0_1)) (fun v1_0 => K (Ex.exit 0) (impl_ColNameOk_Q0_1 v1_0)) m := by funext x0 x1 x2; exact impl_ColNameOk_EL0 D n K m x0 x1 x2
    rw [impl_ColNameOk_SB0]
    rw [ih]; rfl
theorem impl_ColNameOk_X0_0 (D : Den ctx) (n : Nat) (v0_0 : ByteArray) (v0_1 : Bool) :
  (CQ funcTab D n 28 [] [.r, .l, .r, .l] (lastK funcTab 28)) (Ex.ret) (impl_ColNameOk_Q0_0 v0_0 v0_1) = impl_ColNameOk_x0_0 D n v0_0 v0_1 := by kernel_rfl
theorem impl_ColNameOk_X0_1 (D : Den ctx) (n : Nat) (v1_0 : ByteArray) :
  (CQ funcTab D n 28 [] [.r, .l, .r, .l] (lastK funcTab 28)) (Ex.exit 0) (impl_ColNameOk_Q0_1 v1_0) = impl_ColNameOk_x0_1 D n v1_0 := by kernel_rfl
theorem impl_ColNameOk_ELP0 (D : Den ctx) (n : Nat) (x0 : ByteArray) (x1 : Int) (x2 : Int) :
  LQ funcTab D n 28 [.r, .l, .r, .l] n (impl_ColNameOk_Q0 x0 x1 x2) (CQ funcTab D n 28 [] [.r, .l, .r, .l] (lastK funcTab 28)) = impl_ColNameOk_LP0 D n x0 x1 x2 := by
  rw [impl_ColNameOk_EL0]
  simp only [impl_ColNameOk_X0_0, impl_ColNameOk_X0_1]
  rfl
theorem E_impl_ColNameOk (D : Den ctx) (n : Nat) (a0 : ByteArray) : rfC funcTab D n 28 (a0, ()) = F_impl_ColNameOk D n a0 := by
  have h : rfC funcTab D n 28 (a0, ()) = impl_ColNameOk_e D n (fun x0 x1 x2 => LQ funcTab D n 28 [.r, .l, .r, .l] n (impl_ColNameOk_Q0 x0 x1 x2) (CQ funcTab D n 28 [] [.r, .l, .r, .l] (lastK funcTab 28))) a0 := by kernel_rfl
  rw [h]
  simp only [impl_ColNameOk_ELP0]
  rfl
end Go.G

namespace Go.G
set_option maxRecDepth 100000
set_option maxHeartbeats 0
open Go Go.V
noncomputable def spec_ColNameOk_b0 (D : Den ctx) (n : Nat) (go : ByteArray → Int → Option ((Bool × Unit) × Unit)) (K0 : ByteArray → Bool → Option ((Bool × Unit) × Unit)) (K1 : ByteArray → Option ((Bool × Unit) × Unit)) (x0 : ByteArray) (x1 : Int) : Option ((Bool × Unit) × Unit) := br (decide (x1 < (↑(ByteArray.size x0) : Int))) (br (decide (0 ≤ x1) && decide (x1 < (↑(ByteArray.size x0) : Int))) (br (decide ((↑(UInt8.toNat (Array.getD (ByteArray.data x0) (Int.toNat x1) (UInt8.ofNat 0))) : Int) < 97)) (K0 x0 false) (br (decide (0 ≤ x1) && decide (x1 < (↑(ByteArray.size x0) : Int))) (br (decide ((↑(UInt8.toNat (Array.getD (ByteArray.data x0) (Int.toNat x1) (UInt8.ofNat 0))) : Int) > 122)) (K0 x0 false) (go x0 (IntKind.wrap IntKind.i64 (x1 + 1)))) none)) none) (K1 x0)
noncomputable def spec_ColNameOk_L0 (D : Den ctx) (n : Nat) (K0 : ByteArray → Bool → Option ((Bool × Unit) × Unit)) (K1 : ByteArray → Option ((Bool × Unit) × Unit)) : Nat → (ByteArray) → (Int) → Option ((Bool × Unit) × Unit) | 0 => (fun x0 x1 => none) | m + 1 => (fun x0 x1 => spec_ColNameOk_b0 D n (spec_ColNameOk_L0 D n K0 K1 m) K0 K1 x0 x1)
noncomputable def spec_ColNameOk_x0_0 (D : Den ctx) (n : Nat) (v0_0 : ByteArray) (v0_1 : Bool) : Option ((Bool × Unit) × Unit) := some ((v0_1, ()), ())
noncomputable def spec_ColNameOk_x0_1 (D : Den ctx) (n : Nat) (v1_0 : ByteArray) : Option ((Bool × Unit) × Unit) := bindD (C_spec_l1In D (↑(ByteArray.size v1_0) : Int) 1 12) fun b ↦ some ((Prod.fst (Prod.fst b), ()), ())
noncomputable def spec_ColNameOk_LP0 (D : Den ctx) (n : Nat) : (ByteArray) → (Int) → Option ((Bool × Unit) × Unit) := (fun x0 x1 => spec_ColNameOk_L0 D n (fun v0_0 v0_1 => spec_ColNameOk_x0_0 D n v0_0 v0_1) (fun v1_0 => spec_ColNameOk_x0_1 D n v1_0) n x0 x1)
noncomputable def spec_ColNameOk_e (D : Den ctx) (n : Nat) (lp0 : ByteArray → Int → Option ((Bool × Unit) × Unit)) (a0 : ByteArray) : Option ((Bool × Unit) × Unit) := lp0 a0 0
noncomputable def F_spec_ColNameOk (D : Den ctx) (n : Nat) (a0 : ByteArray) : Option ((Bool × Unit) × Unit) := spec_ColNameOk_e D n (spec_ColNameOk_LP0 D n) a0
def spec_ColNameOk_Q0 (x0 : ByteArray) (x1 : Int) : St := stq 23 [(0, AV.val Ty.str x0), (3, AV.val (Ty.int IntKind.i64) x1)] []
def spec_ColNameOk_Q0_0 (v0_0 : ByteArray) (v0_1 : Bool) : St := stq 23 [(0, AV.val Ty.str v0_0), (2, AV.val Ty.bool v0_1)] []
def spec_ColNameOk_Q0_1 (v1_0 : ByteArray) : St := stq 23 [(0, AV.val Ty.str v1_0)] []
theorem spec_ColNameOk_SB0 (D : Den ctx) (n : Nat) (m : Nat) (K : Ex → St → Option (Out ctx 29)) (x0 : ByteArray) (x1 : Int) :
  LQ funcTab D n 29 [.r, .l, .r, .l] (m + 1) (spec_ColNameOk_Q0 x0 x1) K = spec_ColNameOk_b0 D n (fun x0 x1 => LQ funcTab D n 29 [.r, .l, .r, .l] m (spec_ColNameOk_Q0 x0 x1) K) (fun v0_0 v0_1 => K (Ex.ret) (spec_ColNameOk_Q0_0 v0_0 v0_1)) (fun v1_0 => K (Ex.exit 0) (spec_ColNameOk_Q0_1 v1_0)) x0 x1 := by kernel_rfl
theorem spec_ColNameOk_EL0 (D : Den ctx) (n : Nat) (K : Ex → St → Option (Out ctx 29)) : ∀ (m : Nat) (x0 : ByteArray) (x1 : Int), LQ funcTab D n 29 [.r, .l, .r, .l] m (spec_ColNameOk_Q0 x0 x1) K = spec_ColNameOk_L0 D n (fun v0_0 v0_1 => K (Ex.ret) (spec_ColNameOk_Q0_0 v0_0 v0_1)) (fun v1_0 => K (Ex.exit 0) (spec_ColNameOk_Q0_1 v1_0)) m x0 x1
  | 0, x0, x1 => LQ_zero ..
  | m + 1, x0, x1 => by
    have ih : (fun x0 x1 => LQ funcTab D n 29 [.r, .l, .r, .l] m (spec_ColNameOk_Q0 x0 x1) K) = spec_ColNameOk_L0 D n (fun v0_0 v0_1 => K (Ex.ret) (spec_ColNameOk_Q0_0 v0_0 v0_1)) (fun v1_0 => K (Ex.exit 0) (spec_ColNameOk_Q0_1 v1_0)) m := by funext x0 x1; exact spec_ColNameOk_EL0 D n K m x0 x1
    rw [spec_ColNameOk_SB0]
    rw [ih]; rfl
theorem spec_ColNameOk_X0_0 (D : Den ctx) (n : Nat) (v0_0 : ByteArray) (v0_1 : Bool) :
  (CQ funcTab D n 29 [] [.r, .l, .r, .l] (lastK funcTab 29)) (Ex.ret) (spec_ColNameOk_Q0_0 v0_0 v0_1) = spec_ColNameOk_x0_0 D n v0_0 v0_1 := by kernel_rfl
theorem spec_ColNameOk_X0_1 (D : Den ctx) (n : Nat) (v1_0 : ByteArray) :
  (CQ funcTab D n 29 [] [.r, .l, .r, .l] (lastK funcTab 29)) (Ex.exit 0) (spec_ColNameOk_Q0_1 v1_0) = spec_ColNameOk_x0_1 D n v1_0 := by kernel_rfl
theorem spec_ColNameOk_ELP0 (D : Den ctx) (n : Nat) (x0 : ByteArray) (x1 : Int) :
  LQ funcTab D n 29 [.r, .l, .r, .l] n (spec_ColNameOk_Q0 x0 x1) (CQ funcTab D n 29 [] [.r, .l, .r, .l] (lastK funcTab 29)) = spec_ColNameOk_LP0 D n x0 x1 := by
  rw [spec_ColNameOk_EL0]
  simp only [spec_ColNameOk_X0_0, spec_ColNameOk_X0_1]
  rfl
theorem E_spec_ColNameOk (D : Den ctx) (n : Nat) (a0 : ByteArray) : rfC funcTab D n 29 (a0, ()) = F_spec_ColNameOk D n a0 := by
  have h : rfC funcTab D n 29 (a0, ()) = spec_ColNameOk_e D n (fun x0 x1 => LQ funcTab D n 29 [.r, .l, .r, .l] n (spec_ColNameOk_Q0 x0 x1) (CQ funcTab D n 29 [] [.r, .l, .r, .l] (lastK funcTab 29))) a0 := by kernel_rfl
  rw [h]
  simp only [spec_ColNameOk_ELP0]
  rfl
end Go.G

namespace Go.G
set_option maxRecDepth 100000
set_option maxHeartbeats 0
open Go Go.V
noncomputable def impl_ColAt_e (D : Den ctx) (n : Nat) (a0 : List (ByteArray × Int × Bool × Unit) × List Int × List (ByteArray × List Int × Bool × Unit) × Unit) (a1 : ByteArray) : Option ((Int × Unit) × Unit) := bindD (C_slices_IndexFunc_impl_Col_impl_Col D (Prod.fst a0) (Clo.mk 97 [CapV.rptr Ty.str a1])) fun b ↦ some ((Prod.fst (Prod.fst b), ()), ())
noncomputable def F_impl_ColAt (D : Den ctx) (n : Nat) (a0 : List (ByteArray × Int × Bool × Unit) × List Int × List (ByteArray × List Int × Bool × Unit) × Unit) (a1 : ByteArray) : Option ((Int × Unit) × Unit) := impl_ColAt_e D n a0 a1
theorem E_impl_ColAt (D : Den ctx) (n : Nat) (a0 : List (ByteArray × Int × Bool × Unit) × List Int × List (ByteArray × List Int × Bool × Unit) × Unit) (a1 : ByteArray) : rfC funcTab D n 30 (a0, (a1, ())) = F_impl_ColAt D n a0 a1 := by kernel_rfl
end Go.G

namespace Go.G
set_option maxRecDepth 100000
set_option maxHeartbeats 0
open Go Go.V
noncomputable def spec_ColAt_b0 (D : Den ctx) (n : Nat) (go : ByteArray → Int → List (ByteArray × Int × Bool × Unit) × List Int × List (ByteArray × List Int × Bool × Unit) × Unit → Option ((Int × Unit) × Unit)) (K0 : Int → Option ((Int × Unit) × Unit)) (K1 : Option ((Int × Unit) × Unit)) (x0 : ByteArray) (x1 : Int) (x2 : List (ByteArray × Int × Bool × Unit) × List Int × List (ByteArray × List Int × Bool × Unit) × Unit) : Option ((Int × Unit) × Unit) := br (decide (x1 < (↑(List.length (Prod.fst x2)) : Int))) (br (decide (0 ≤ x1) && decide (x1 < (↑(List.length (Prod.fst x2)) : Int))) (br (List.beq (ByteArray.toList (Prod.fst (List.getD (Prod.fst x2) (Int.toNat x1) (ByteArray.empty, 0, false, ())))) (ByteArray.toList x0)) (K0 x1) (go x0 (IntKind.wrap IntKind.i64 (x1 + 1)) x2)) none) K1
noncomputable def spec_ColAt_L0 (D : Den ctx) (n : Nat) (K0 : Int → Option ((Int × Unit) × Unit)) (K1 : Option ((Int × Unit) × Unit)) : Nat → (ByteArray) → (Int) → (List (ByteArray × Int × Bool × Unit) × List Int × List (ByteArray × List Int × Bool × Unit) × Unit) → Option ((Int × Unit) × Unit) | 0 => (fun x0 x1 x2 => none) | m + 1 => (fun x0 x1 x2 => spec_ColAt_b0 D n (spec_ColAt_L0 D n K0 K1 m) K0 K1 x0 x1 x2)
noncomputable def spec_ColAt_x0_0 (D : Den ctx) (n : Nat) (v0_0 : Int) : Option ((Int × Unit) × Unit) := some ((v0_0, ()), ())
noncomputable def spec_ColAt_x0_1 (D : Den ctx) (n : Nat) : Option ((Int × Unit) × Unit) := some ((-1, ()), ())
noncomputable def spec_ColAt_LP0 (D : Den ctx) (n : Nat) : (ByteArray) → (Int) → (List (ByteArray × Int × Bool × Unit) × List Int × List (ByteArray × List Int × Bool × Unit) × Unit) → Option ((Int × Unit) × Unit) := (fun x0 x1 x2 => spec_ColAt_L0 D n (fun v0_0 => spec_ColAt_x0_0 D n v0_0) (spec_ColAt_x0_1 D n) n x0 x1 x2)
noncomputable def spec_ColAt_e (D : Den ctx) (n : Nat) (lp0 : ByteArray → Int → List (ByteArray × Int × Bool × Unit) × List Int × List (ByteArray × List Int × Bool × Unit) × Unit → Option ((Int × Unit) × Unit)) (a0 : List (ByteArray × Int × Bool × Unit) × List Int × List (ByteArray × List Int × Bool × Unit) × Unit) (a1 : ByteArray) : Option ((Int × Unit) × Unit) := lp0 a1 0 a0
noncomputable def F_spec_ColAt (D : Den ctx) (n : Nat) (a0 : List (ByteArray × Int × Bool × Unit) × List Int × List (ByteArray × List Int × Bool × Unit) × Unit) (a1 : ByteArray) : Option ((Int × Unit) × Unit) := spec_ColAt_e D n (spec_ColAt_LP0 D n) a0 a1
def spec_ColAt_Q0 (x0 : ByteArray) (x1 : Int) (x2 : List (ByteArray × Int × Bool × Unit) × List Int × List (ByteArray × List Int × Bool × Unit) × Unit) : St := stq 22 [(1, AV.val Ty.str x0), (2, AV.addr 2 []), (5, AV.val (Ty.int IntKind.i64) x1)] [(2, Root.mk (Ty.pair (Ty.sl (Ty.pair Ty.str (Ty.pair (Ty.int IntKind.i64) (Ty.pair Ty.bool Ty.unit)))) (Ty.pair (Ty.sl (Ty.int IntKind.i64)) (Ty.pair (Ty.sl (Ty.pair Ty.str (Ty.pair (Ty.sl (Ty.int IntKind.i64)) (Ty.pair Ty.bool Ty.unit)))) Ty.unit))) Mk.no x2 true)]
def spec_ColAt_Q0_0 (v0_0 : Int) : St := stq 22 [(4, AV.val (Ty.int IntKind.i64) v0_0)] []
def spec_ColAt_Q0_1 : St := stq 22 [] []
theorem spec_ColAt_SB0 (D : Den ctx) (n : Nat) (m : Nat) (K : Ex → St → Option (Out ctx 31)) (x0 : ByteArray) (x1 : Int) (x2 : List (ByteArray × Int × Bool × Unit) × List Int × List (ByteArray × List Int × Bool × Unit) × Unit) :
  LQ funcTab D n 31 [.r, .l, .r, .l] (m + 1) (spec_ColAt_Q0 x0 x1 x2) K = spec_ColAt_b0 D n (fun x0 x1 x2 => LQ funcTab D n 31 [.r, .l, .r, .l] m (spec_ColAt_Q0 x0 x1 x2) K) (fun v0_0 => K (Ex.ret) (spec_ColAt_Q0_0 v0_0)) (K (Ex.exit 0) (spec_ColAt_Q0_1)) x0 x1 x2 := by kernel_rfl
theorem spec_ColAt_EL0 (D : Den ctx) (n : Nat) (K : Ex → St → Option (Out ctx 31)) : ∀ (m : Nat) (x0 : ByteArray) (x1 : Int) (x2 : List (ByteArray × Int × Bool × Unit) × List Int × List (ByteArray × List Int × Bool × Unit) × Unit), LQ funcTab D n 31 [.r, .l, .r, .l] m (spec_ColAt_Q0 x0 x1 x2) K = spec_ColAt_L0 D n (fun v0_0 => K (Ex.ret) (spec_ColAt_Q0_0 v0_0)) (K (Ex.exit 0) (spec_ColAt_Q0_1)) m x0 x1 x2
  | 0, x0, x1, x2 => LQ_zero ..
  | m + 1, x0, x1, x2 => by
    have ih : (fun x0 x1 x2 => LQ funcTab D n 31 [.r, .l, .r, .l] m (spec_ColAt_Q0 x0 x1 x2) K) = spec_ColAt_L0 D n (fun v0_0 => K (Ex.ret) (spec_ColAt_Q0_0 v0_0)) (K (Ex.exit 0) (spec_ColAt_Q0_1)) m := by funext x0 x1 x2; exact spec_ColAt_EL0 D n K m x0 x1 x2
    rw [spec_ColAt_SB0]
    rw [ih]; rfl
theorem spec_ColAt_X0_0 (D : Den ctx) (n : Nat) (v0_0 : Int) :
  (CQ funcTab D n 31 [] [.r, .l, .r, .l] (lastK funcTab 31)) (Ex.ret) (spec_ColAt_Q0_0 v0_0) = spec_ColAt_x0_0 D n v0_0 := by kernel_rfl
theorem spec_ColAt_X0_1 (D : Den ctx) (n : Nat) :
  (CQ funcTab D n 31 [] [.r, .l, .r, .l] (lastK funcTab 31)) (Ex.exit 0) (spec_ColAt_Q0_1) = spec_ColAt_x0_1 D n := by kernel_rfl
theorem spec_ColAt_ELP0 (D : Den ctx) (n : Nat) (x0 : ByteArray) (x1 : Int) (x2 : List (ByteArray × Int × Bool × Unit) × List Int × List (ByteArray × List Int × Bool × Unit) × Unit) :
  LQ funcTab D n 31 [.r, .l, .r, .l] n (spec_ColAt_Q0 x0 x1 x2) (CQ funcTab D n 31 [] [.r, .l, .r, .l] (lastK funcTab 31)) = spec_ColAt_LP0 D n x0 x1 x2 := by
  rw [spec_ColAt_EL0]
  simp only [spec_ColAt_X0_0, spec_ColAt_X0_1]
  rfl
theorem E_spec_ColAt (D : Den ctx) (n : Nat) (a0 : List (ByteArray × Int × Bool × Unit) × List Int × List (ByteArray × List Int × Bool × Unit) × Unit) (a1 : ByteArray) : rfC funcTab D n 31 (a0, (a1, ())) = F_spec_ColAt D n a0 a1 := by
  have h : rfC funcTab D n 31 (a0, (a1, ())) = spec_ColAt_e D n (fun x0 x1 x2 => LQ funcTab D n 31 [.r, .l, .r, .l] n (spec_ColAt_Q0 x0 x1 x2) (CQ funcTab D n 31 [] [.r, .l, .r, .l] (lastK funcTab 31))) a0 a1 := by kernel_rfl
  rw [h]
  simp only [spec_ColAt_ELP0]
  rfl
end Go.G

namespace Go.G
set_option maxRecDepth 100000
set_option maxHeartbeats 0
open Go Go.V
noncomputable def impl_KeyOfRow_e (D : Den ctx) (n : Nat) (a0 : List (ByteArray × Int × Bool × Unit) × List Int × List (ByteArray × List Int × Bool × Unit) × Unit) (a1 : List (Int × Int × ByteArray × Unit)) : Option ((List (Int × Int × ByteArray × Unit) × Unit) × Unit) := bindD (C_impl_Project D a1 (Prod.fst (Prod.snd a0))) fun b ↦ some ((Prod.fst (Prod.fst b), ()), ())
noncomputable def F_impl_KeyOfRow (D : Den ctx) (n : Nat) (a0 : List (ByteArray × Int × Bool × Unit) × List Int × List (ByteArray × List Int × Bool × Unit) × Unit) (a1 : List (Int × Int × ByteArray × Unit)) : Option ((List (Int × Int × ByteArray × Unit) × Unit) × Unit) := impl_KeyOfRow_e D n a0 a1
theorem E_impl_KeyOfRow (D : Den ctx) (n : Nat) (a0 : List (ByteArray × Int × Bool × Unit) × List Int × List (ByteArray × List Int × Bool × Unit) × Unit) (a1 : List (Int × Int × ByteArray × Unit)) : rfC funcTab D n 33 (a0, (a1, ())) = F_impl_KeyOfRow D n a0 a1 := by kernel_rfl
end Go.G

namespace Go.G
set_option maxRecDepth 100000
set_option maxHeartbeats 0
open Go Go.V
noncomputable def spec_KeyOfRow_e (D : Den ctx) (n : Nat) (a0 : List (ByteArray × Int × Bool × Unit) × List Int × List (ByteArray × List Int × Bool × Unit) × Unit) (a1 : List (Int × Int × ByteArray × Unit)) : Option ((List (Int × Int × ByteArray × Unit) × Unit) × Unit) := bindD (C_spec_Project D a1 (Prod.fst (Prod.snd a0))) fun b ↦ some ((Prod.fst (Prod.fst b), ()), ())
noncomputable def F_spec_KeyOfRow (D : Den ctx) (n : Nat) (a0 : List (ByteArray × Int × Bool × Unit) × List Int × List (ByteArray × List Int × Bool × Unit) × Unit) (a1 : List (Int × Int × ByteArray × Unit)) : Option ((List (Int × Int × ByteArray × Unit) × Unit) × Unit) := spec_KeyOfRow_e D n a0 a1
theorem E_spec_KeyOfRow (D : Den ctx) (n : Nat) (a0 : List (ByteArray × Int × Bool × Unit) × List Int × List (ByteArray × List Int × Bool × Unit) × Unit) (a1 : List (Int × Int × ByteArray × Unit)) : rfC funcTab D n 34 (a0, (a1, ())) = F_spec_KeyOfRow D n a0 a1 := by kernel_rfl
end Go.G

namespace Go.G
set_option maxRecDepth 100000
set_option maxHeartbeats 0
open Go Go.V
noncomputable def laws_szValueS_b0 (D : Den ctx) (n : Nat) (go : List (Int × Int × ByteArray × Unit) → Int → Int → Option ((Int × Unit) × Unit)) (K0 : Int → Int → Option ((Int × Unit) × Unit)) (K1 : Int → Option ((Int × Unit) × Unit)) (x0 : List (Int × Int × ByteArray × Unit)) (x1 : Int) (x2 : Int) : Option ((Int × Unit) × Unit) := br (decide (x2 < (↑(List.length x0) : Int))) (br (decide (0 ≤ x2) && decide (x2 < (↑(List.length x0) : Int))) (bindD (C_laws_szValue D (List.getD x0 (Int.toNat x2) (0, 0, ByteArray.empty, ())) x1) fun b ↦ br (decide (Prod.fst (Prod.fst b) < 0)) (K0 (Prod.fst (Prod.fst b)) (-1)) (go x0 (Prod.fst (Prod.fst b)) (IntKind.wrap IntKind.i64 (x2 + 1)))) none) (K1 x1)
noncomputable def laws_szValueS_L0 (D : Den ctx) (n : Nat) (K0 : Int → Int → Option ((Int × Unit) × Unit)) (K1 : Int → Option ((Int × Unit) × Unit)) : Nat → (List (Int × Int × ByteArray × Unit)) → (Int) → (Int) → Option ((Int × Unit) × Unit) | 0 => (fun x0 x1 x2 => none) | m + 1 => (fun x0 x1 x2 => laws_szValueS_b0 D n (laws_szValueS_L0 D n K0 K1 m) K0 K1 x0 x1 x2)
noncomputable def laws_szValueS_x0_0 (D : Den ctx) (n : Nat) (v0_0 : Int) (v0_1 : Int) : Option ((Int × Unit) × Unit) := some ((v0_1, ()), ())
noncomputable def laws_szValueS_x0_1 (D : Den ctx) (n : Nat) (v1_0 : Int) : Option ((Int × Unit) × Unit) := some ((v1_0, ()), ())
noncomputable def laws_szValueS_LP0 (D : Den ctx) (n : Nat) : (List (Int × Int × ByteArray × Unit)) → (Int) → (Int) → Option ((Int × Unit) × Unit) := (fun x0 x1 x2 => laws_szValueS_L0 D n (fun v0_0 v0_1 => laws_szValueS_x0_0 D n v0_0 v0_1) (fun v1_0 => laws_szValueS_x0_1 D n v1_0) n x0 x1 x2)
noncomputable def laws_szValueS_e (D : Den ctx) (n : Nat) (lp0 : List (Int × Int × ByteArray × Unit) → Int → Int → Option ((Int × Unit) × Unit)) (a0 : List (Int × Int × ByteArray × Unit)) (a1 : Int) : Option ((Int × Unit) × Unit) := br (decide (IntKind.wrap IntKind.i64 (a1 - (↑(List.length a0) : Int)) < 0)) (some ((-1, ()), ())) (lp0 a0 (IntKind.wrap IntKind.i64 (a1 - (↑(List.length a0) : Int))) 0)
noncomputable def F_laws_szValueS (D : Den ctx) (n : Nat) (a0 : List (Int × Int × ByteArray × Unit)) (a1 : Int) : Option ((Int × Unit) × Unit) := laws_szValueS_e D n (laws_szValueS_LP0 D n) a0 a1
def laws_szValueS_Q0 (x0 : List (Int × Int × ByteArray × Unit)) (x1 : Int) (x2 : Int) : St := stq 27 [(0, AV.val (Ty.sl (Ty.pair (Ty.int IntKind.i64) (Ty.pair (Ty.int IntKind.i64) (Ty.pair Ty.str Ty.unit)))) x0), (1, AV.val (Ty.int IntKind.i64) x1), (5, AV.val (Ty.int IntKind.i64) x2)] []
def laws_szValueS_Q0_0 (v0_0 : Int) (v0_1 : Int) : St := stq 27 [(1, AV.val (Ty.int IntKind.i64) v0_0), (4, AV.val (Ty.int IntKind.i64) v0_1)] []
def laws_szValueS_Q0_1 (v1_0 : Int) : St := stq 27 [(1, AV.val (Ty.int IntKind.i64) v1_0)] []
theorem laws_szValueS_SB0 (D : Den ctx) (n : Nat) (m : Nat) (K : Ex → St → Option (Out ctx 36)) (x0 : List (Int × Int × ByteArray × Unit)) (x1 : Int) (x2 : Int) :
  LQ funcTab D n 36 [.r, .r, .r, .l, .r, .l] (m + 1) (laws_szValueS_Q0 x0 x1 x2) K = laws_szValueS_b0 D n (fun x0 x1 x2 => LQ funcTab D n 36 [.r, .r, .r, .l, .r, .l] m (laws_szValueS_Q0 x0 x1 x2) K) (fun v0_0 v0_1 => K (Ex.ret) (laws_szValueS_Q0_0 v0_0 v0_1)) (fun v1_0 => K (Ex.exit 0) (laws_szValueS_Q0_1 v1_0)) x0 x1 x2 := by kernel_rfl
theorem laws_szValueS_EL0 (D : Den ctx) (n : Nat) (K : Ex → St → Option (Out ctx 36)) : ∀ (m : Nat) (x0 : List (Int × Int × ByteArray × Unit)) (x1 : Int) (x2 : Int), LQ funcTab D n 36 [.r, .r, .r, .l, .r, .l] m (laws_szValueS_Q0 x0 x1 x2) K = laws_szValueS_L0 D n (fun v0_0 v0_1 => K (Ex.ret) (laws_szValueS_Q0_0 v0_0 v0_1)) (fun v1_0 => K (Ex.exit 0) (laws_szValueS_Q0_1 v1_0)) m x0 x1 x2
  | 0, x0, x1, x2 => LQ_zero ..
  | m + 1, x0, x1, x2 => by
    have ih : (fun x0 x1 x2 => LQ funcTab D n 36 [.r, .r, .r, .l, .r, .l] m (laws_szValueS_Q0 x0 x1 x2) K) = laws_szValueS_L0 D n (fun v0_0 v0_1 => K (Ex.ret) (laws_szValueS_Q0_0 v0_0 v0_1)) (fun v1_0 => K (Ex.exit 0) (laws_szValueS_Q0_1 v1_0)) m := by funext x0 x1 x2; exact laws_szValueS_EL0 D n K m x0 x1 x2
    rw [laws_szValueS_SB0]
    rw [ih]; rfl
theorem laws_szValueS_X0_0 (D : Den ctx) (n : Nat) (v0_0 : Int) (v0_1 : Int) :
  (CQ funcTab D n 36 [] [.r, .r, .r, .l, .r, .l] (lastK funcTab 36)) (Ex.ret) (laws_szValueS_Q0_0 v0_0 v0_1) = laws_szValueS_x0_0 D n v0_0 v0_1 := by kernel_rfl
theorem laws_szValueS_X0_1 (D : Den ctx) (n : Nat) (v1_0 : Int) :
  (CQ funcTab D n 36 [] [.r, .r, .r, .l, .r, .l] (lastK funcTab 36)) (Ex.exit 0) (laws_szValueS_Q0_1 v1_0) = laws_szValueS_x0_1 D n v1_0 := by kernel_rfl
theorem laws_szValueS_ELP0 (D : Den ctx) (n : Nat) (x0 : List (Int × Int × ByteArray × Unit)) (x1 : Int) (x2 : Int) :
  LQ funcTab D n 36 [.r, .r, .r, .l, .r, .l] n (laws_szValueS_Q0 x0 x1 x2) (CQ funcTab D n 36 [] [.r, .r, .r, .l, .r, .l] (lastK funcTab 36)) = laws_szValueS_LP0 D n x0 x1 x2 := by
  rw [laws_szValueS_EL0]
  simp only [laws_szValueS_X0_0, laws_szValueS_X0_1]
  rfl
theorem E_laws_szValueS (D : Den ctx) (n : Nat) (a0 : List (Int × Int × ByteArray × Unit)) (a1 : Int) : rfC funcTab D n 36 (a0, (a1, ())) = F_laws_szValueS D n a0 a1 := by
  have h : rfC funcTab D n 36 (a0, (a1, ())) = laws_szValueS_e D n (fun x0 x1 x2 => LQ funcTab D n 36 [.r, .r, .r, .l, .r, .l] n (laws_szValueS_Q0 x0 x1 x2) (CQ funcTab D n 36 [] [.r, .r, .r, .l, .r, .l] (lastK funcTab 36))) a0 a1 := by kernel_rfl
  rw [h]
  simp only [laws_szValueS_ELP0]
  rfl
end Go.G

namespace Go.G
set_option maxRecDepth 100000
set_option maxHeartbeats 0
open Go Go.V
noncomputable def laws_toValueS_b0 (D : Den ctx) (n : Nat) (go : List (Int × Int × ByteArray × Unit) → Int → List (Int × Int × ByteArray × Unit) → Option ((List (Int × Int × ByteArray × Unit) × Unit) × Unit)) (K0 : List (Int × Int × ByteArray × Unit) → Option ((List (Int × Int × ByteArray × Unit) × Unit) × Unit)) (x0 : List (Int × Int × ByteArray × Unit)) (x1 : Int) (x2 : List (Int × Int × ByteArray × Unit)) : Option ((List (Int × Int × ByteArray × Unit) × Unit) × Unit) := br (decide (x1 < (↑(List.length x0) : Int))) (br (decide (0 ≤ x1) && decide (x1 < (↑(List.length x0) : Int))) (bindD (C_laws_toValue D (List.getD x0 (Int.toNat x1) (0, 0, ByteArray.empty, ()))) fun b ↦ br (decide (0 ≤ x1) && decide (x1 < (↑(List.length x2) : Int))) (go x0 (IntKind.wrap IntKind.i64 (x1 + 1)) (List.set x2 (Int.toNat x1) (Prod.fst (Prod.fst b)))) none) none) (K0 x2)
noncomputable def laws_toValueS_L0 (D : Den ctx) (n : Nat) (K0 : List (Int × Int × ByteArray × Unit) → Option ((List (Int × Int × ByteArray × Unit) × Unit) × Unit)) : Nat → (List (Int × Int × ByteArray × Unit)) → (Int) → (List (Int × Int × ByteArray × Unit)) → Option ((List (Int × Int × ByteArray × Unit) × Unit) × Unit) | 0 => (fun x0 x1 x2 => none) | m + 1 => (fun x0 x1 x2 => laws_toValueS_b0 D n (laws_toValueS_L0 D n K0 m) K0 x0 x1 x2)
noncomputable def laws_toValueS_x0_0 (D : Den ctx) (n : Nat) (v0_0 : List (Int × Int × ByteArray × Unit)) : Option ((List (Int × Int × ByteArray × Unit) × Unit) × Unit) := some ((v0_0, ()), ())
noncomputable def laws_toValueS_LP0 (D : Den ctx) (n : Nat) : (List (Int × Int × ByteArray × Unit)) → (Int) → (List (Int × Int × ByteArray × Unit)) → Option ((List (Int × Int × ByteArray × Unit) × Unit) × Unit) := (fun x0 x1 x2 => laws_toValueS_L0 D n (fun v0_0 => laws_toValueS_x0_0 D n v0_0) n x0 x1 x2)
noncomputable def laws_toValueS_e (D : Den ctx) (n : Nat) (lp0 : List (Int × Int × ByteArray × Unit) → Int → List (Int × Int × ByteArray × Unit) → Option ((List (Int × Int × ByteArray × Unit) × Unit) × Unit)) (a0 : List (Int × Int × ByteArray × Unit)) : Option ((List (Int × Int × ByteArray × Unit) × Unit) × Unit) := br (decide (0 ≤ (↑(List.length a0) : Int)) && decide ((↑(List.length a0) : Int) ≤ (↑(List.length a0) : Int)) && decide ((↑(List.length a0) : Int) ≤ (↑bound : Int))) (lp0 a0 0 (List.replicate (Int.toNat (↑(List.length a0) : Int)) (0, 0, ByteArray.empty, ()))) none
noncomputable def F_laws_toValueS (D : Den ctx) (n : Nat) (a0 : List (Int × Int × ByteArray × Unit)) : Option ((List (Int × Int × ByteArray × Unit) × Unit) × Unit) := laws_toValueS_e D n (laws_toValueS_LP0 D n) a0
def laws_toValueS_Q0 (x0 : List (Int × Int × ByteArray × Unit)) (x1 : Int) (x2 : List (Int × Int × ByteArray × Unit)) : St := stq 23 [(0, AV.val (Ty.sl (Ty.pair (Ty.int IntKind.i64) (Ty.pair (Ty.int IntKind.i64) (Ty.pair Ty.str Ty.unit)))) x0), (3, AV.brw 3 [] 0), (4, AV.val (Ty.int IntKind.i64) x1)] [(3, Root.mk (Ty.sl (Ty.pair (Ty.int IntKind.i64) (Ty.pair (Ty.int IntKind.i64) (Ty.pair Ty.str Ty.unit)))) (Mk.own 0 (Mk.pr Mk.no (Mk.pr Mk.no (Mk.pr Mk.no Mk.no)))) x2 false)]
def laws_toValueS_Q0_0 (v0_0 : List (Int × Int × ByteArray × Unit)) : St := stq 23 [(3, AV.brw 3 [] 0)] [(3, Root.mk (Ty.sl (Ty.pair (Ty.int IntKind.i64) (Ty.pair (Ty.int IntKind.i64) (Ty.pair Ty.str Ty.unit)))) (Mk.own 0 (Mk.pr Mk.no (Mk.pr Mk.no (Mk.pr Mk.no Mk.no)))) v0_0 false)]
theorem laws_toValueS_SB0 (D : Den ctx) (n : Nat) (m : Nat) (K : Ex → St → Option (Out ctx 37)) (x0 : List (Int × Int × ByteArray × Unit)) (x1 : Int) (x2 : List (Int × Int × ByteArray × Unit)) :
  LQ funcTab D n 37 [.r, .r, .l, .r, .l] (m + 1) (laws_toValueS_Q0 x0 x1 x2) K = laws_toValueS_b0 D n (fun x0 x1 x2 => LQ funcTab D n 37 [.r, .r, .l, .r, .l] m (laws_toValueS_Q0 x0 x1 x2) K) (fun v0_0 => K (Ex.exit 0) (laws_toValueS_Q0_0 v0_0)) x0 x1 x2 := by kernel_rfl
theorem laws_toValueS_EL0 (D : Den ctx) (n : Nat) (K : Ex → St → Option (Out ctx 37)) : ∀ (m : Nat) (x0 : List (Int × Int × ByteArray × Unit)) (x1 : Int) (x2 : List (Int × Int × ByteArray × Unit)), LQ funcTab D n 37 [.r, .r, .l, .r, .l] m (laws_toValueS_Q0 x0 x1 x2) K = laws_toValueS_L0 D n (fun v0_0 => K (Ex.exit 0) (laws_toValueS_Q0_0 v0_0)) m x0 x1 x2
  | 0, x0, x1, x2 => LQ_zero ..
  | m + 1, x0, x1, x2 => by
    have ih : (fun x0 x1 x2 => LQ funcTab D n 37 [.r, .r, .l, .r, .l] m (laws_toValueS_Q0 x0 x1 x2) K) = laws_toValueS_L0 D n (fun v0_0 => K (Ex.exit 0) (laws_toValueS_Q0_0 v0_0)) m := by funext x0 x1 x2; exact laws_toValueS_EL0 D n K m x0 x1 x2
    rw [laws_toValueS_SB0]
    rw [ih]; rfl
theorem laws_toValueS_X0_0 (D : Den ctx) (n : Nat) (v0_0 : List (Int × Int × ByteArray × Unit)) :
  (CQ funcTab D n 37 [] [.r, .r, .l, .r, .l] (lastK funcTab 37)) (Ex.exit 0) (laws_toValueS_Q0_0 v0_0) = laws_toValueS_x0_0 D n v0_0 := by kernel_rfl
theorem laws_toValueS_ELP0 (D : Den ctx) (n : Nat) (x0 : List (Int × Int × ByteArray × Unit)) (x1 : Int) (x2 : List (Int × Int × ByteArray × Unit)) :
  LQ funcTab D n 37 [.r, .r, .l, .r, .l] n (laws_toValueS_Q0 x0 x1 x2) (CQ funcTab D n 37 [] [.r, .r, .l, .r, .l] (lastK funcTab 37)) = laws_toValueS_LP0 D n x0 x1 x2 := by
  rw [laws_toValueS_EL0]
  simp only [laws_toValueS_X0_0]
  rfl
theorem E_laws_toValueS (D : Den ctx) (n : Nat) (a0 : List (Int × Int × ByteArray × Unit)) : rfC funcTab D n 37 (a0, ()) = F_laws_toValueS D n a0 := by
  have h : rfC funcTab D n 37 (a0, ()) = laws_toValueS_e D n (fun x0 x1 x2 => LQ funcTab D n 37 [.r, .r, .l, .r, .l] n (laws_toValueS_Q0 x0 x1 x2) (CQ funcTab D n 37 [] [.r, .r, .l, .r, .l] (lastK funcTab 37))) a0 := by kernel_rfl
  rw [h]
  simp only [laws_toValueS_ELP0]
  rfl
end Go.G

namespace Go.G
set_option maxRecDepth 100000
set_option maxHeartbeats 0
open Go Go.V
noncomputable def laws_eqValueS_b0 (D : Den ctx) (n : Nat) (go : List (Int × Int × ByteArray × Unit) → List (Int × Int × ByteArray × Unit) → Int → Option ((Bool × Unit) × Unit)) (K0 : Bool → Option ((Bool × Unit) × Unit)) (K1 : Option ((Bool × Unit) × Unit)) (x0 : List (Int × Int × ByteArray × Unit)) (x1 : List (Int × Int × ByteArray × Unit)) (x2 : Int) : Option ((Bool × Unit) × Unit) := br (decide (x2 < (↑(List.length x0) : Int))) (br (decide (0 ≤ x2) && decide (x2 < (↑(List.length x0) : Int))) (br (decide (0 ≤ x2) && decide (x2 < (↑(List.length x1) : Int))) (bindD (C_laws_eqValue D (List.getD x0 (Int.toNat x2) (0, 0, ByteArray.empty, ())) (List.getD x1 (Int.toNat x2) (0, 0, ByteArray.empty, ()))) fun b ↦ br (!Prod.fst (Prod.fst b)) (K0 false) (go x0 x1 (IntKind.wrap IntKind.i64 (x2 + 1)))) none) none) K1
noncomputable def laws_eqValueS_L0 (D : Den ctx) (n : Nat) (K0 : Bool → Option ((Bool × Unit) × Unit)) (K1 : Option ((Bool × Unit) × Unit)) : Nat → (List (Int × Int × ByteArray × Unit)) → (List (Int × Int × ByteArray × Unit)) → (Int) → Option ((Bool × Unit) × Unit) | 0 => (fun x0 x1 x2 => none) | m + 1 => (fun x0 x1 x2 => laws_eqValueS_b0 D n (laws_eqValueS_L0 D n K0 K1 m) K0 K1 x0 x1 x2)
noncomputable def laws_eqValueS_x0_0 (D : Den ctx) (n : Nat) (v0_0 : Bool) : Option ((Bool × Unit) × Unit) := some ((v0_0, ()), ())
noncomputable def laws_eqValueS_x0_1 (D : Den ctx) (n : Nat) : Option ((Bool × Unit) × Unit) := some ((true, ()), ())
noncomputable def laws_eqValueS_LP0 (D : Den ctx) (n : Nat) : (List (Int × Int × ByteArray × Unit)) → (List (Int × Int × ByteArray × Unit)) → (Int) → Option ((Bool × Unit) × Unit) := (fun x0 x1 x2 => laws_eqValueS_L0 D n (fun v0_0 => laws_eqValueS_x0_0 D n v0_0) (laws_eqValueS_x0_1 D n) n x0 x1 x2)
noncomputable def laws_eqValueS_e (D : Den ctx) (n : Nat) (lp0 : List (Int × Int × ByteArray × Unit) → List (Int × Int × ByteArray × Unit) → Int → Option ((Bool × Unit) × Unit)) (a0 : List (Int × Int × ByteArray × Unit)) (a1 : List (Int × Int × ByteArray × Unit)) : Option ((Bool × Unit) × Unit) := br ((↑(List.length a0) : Int) != (↑(List.length a1) : Int)) (some ((false, ()), ())) (lp0 a0 a1 0)
noncomputable def F_laws_eqValueS (D : Den ctx) (n : Nat) (a0 : List (Int × Int × ByteArray × Unit)) (a1 : List (Int × Int × ByteArray × Unit)) : Option ((Bool × Unit) × Unit) := laws_eqValueS_e D n (laws_eqValueS_LP0 D n) a0 a1
def laws_eqValueS_Q0 (x0 : List (Int × Int × ByteArray × Unit)) (x1 : List (Int × Int × ByteArray × Unit)) (x2 : Int) : St := stq 27 [(0, AV.val (Ty.sl (Ty.pair (Ty.int IntKind.i64) (Ty.pair (Ty.int IntKind.i64) (Ty.pair Ty.str Ty.unit)))) x0), (1, AV.val (Ty.sl (Ty.pair (Ty.int IntKind.i64) (Ty.pair (Ty.int IntKind.i64) (Ty.pair Ty.str Ty.unit)))) x1), (5, AV.val (Ty.int IntKind.i64) x2)] []
def laws_eqValueS_Q0_0 (v0_0 : Bool) : St := stq 27 [(4, AV.val Ty.bool v0_0)] []
def laws_eqValueS_Q0_1 : St := stq 27 [] []
theorem laws_eqValueS_SB0 (D : Den ctx) (n : Nat) (m : Nat) (K : Ex → St → Option (Out ctx 38)) (x0 : List (Int × Int × ByteArray × Unit)) (x1 : List (Int × Int × ByteArray × Unit)) (x2 : Int) :
  LQ funcTab D n 38 [.r, .r, .l, .r, .l] (m + 1) (laws_eqValueS_Q0 x0 x1 x2) K = laws_eqValueS_b0 D n (fun x0 x1 x2 => LQ funcTab D n 38 [.r, .r, .l, .r, .l] m (laws_eqValueS_Q0 x0 x1 x2) K) (fun v0_0 => K (Ex.ret) (laws_eqValueS_Q0_0 v0_0)) (K (Ex.exit 0) (laws_eqValueS_Q0_1)) x0 x1 x2 := by kernel_rfl
theorem laws_eqValueS_EL0 (D : Den ctx) (n : Nat) (K : Ex → St → Option (Out ctx 38)) : ∀ (m : Nat) (x0 : List (Int × Int × ByteArray × Unit)) (x1 : List (Int × Int × ByteArray × Unit)) (x2 : Int), LQ funcTab D n 38 [.r, .r, .l, .r, .l] m (laws_eqValueS_Q0 x0 x1 x2) K = laws_eqValueS_L0 D n (fun v0_0 => K (Ex.ret) (laws_eqValueS_Q0_0 v0_0)) (K (Ex.exit 0) (laws_eqValueS_Q0_1)) m x0 x1 x2
  | 0, x0, x1, x2 => LQ_zero ..
  | m + 1, x0, x1, x2 => by
    have ih : (fun x0 x1 x2 => LQ funcTab D n 38 [.r, .r, .l, .r, .l] m (laws_eqValueS_Q0 x0 x1 x2) K) = laws_eqValueS_L0 D n (fun v0_0 => K (Ex.ret) (laws_eqValueS_Q0_0 v0_0)) (K (Ex.exit 0) (laws_eqValueS_Q0_1)) m := by funext x0 x1 x2; exact laws_eqValueS_EL0 D n K m x0 x1 x2
    rw [laws_eqValueS_SB0]
    rw [ih]; rfl
theorem laws_eqValueS_X0_0 (D : Den ctx) (n : Nat) (v0_0 : Bool) :
  (CQ funcTab D n 38 [] [.r, .r, .l, .r, .l] (lastK funcTab 38)) (Ex.ret) (laws_eqValueS_Q0_0 v0_0) = laws_eqValueS_x0_0 D n v0_0 := by kernel_rfl
theorem laws_eqValueS_X0_1 (D : Den ctx) (n : Nat) :
  (CQ funcTab D n 38 [] [.r, .r, .l, .r, .l] (lastK funcTab 38)) (Ex.exit 0) (laws_eqValueS_Q0_1) = laws_eqValueS_x0_1 D n := by kernel_rfl
theorem laws_eqValueS_ELP0 (D : Den ctx) (n : Nat) (x0 : List (Int × Int × ByteArray × Unit)) (x1 : List (Int × Int × ByteArray × Unit)) (x2 : Int) :
  LQ funcTab D n 38 [.r, .r, .l, .r, .l] n (laws_eqValueS_Q0 x0 x1 x2) (CQ funcTab D n 38 [] [.r, .r, .l, .r, .l] (lastK funcTab 38)) = laws_eqValueS_LP0 D n x0 x1 x2 := by
  rw [laws_eqValueS_EL0]
  simp only [laws_eqValueS_X0_0, laws_eqValueS_X0_1]
  rfl
theorem E_laws_eqValueS (D : Den ctx) (n : Nat) (a0 : List (Int × Int × ByteArray × Unit)) (a1 : List (Int × Int × ByteArray × Unit)) : rfC funcTab D n 38 (a0, (a1, ())) = F_laws_eqValueS D n a0 a1 := by
  have h : rfC funcTab D n 38 (a0, (a1, ())) = laws_eqValueS_e D n (fun x0 x1 x2 => LQ funcTab D n 38 [.r, .r, .l, .r, .l] n (laws_eqValueS_Q0 x0 x1 x2) (CQ funcTab D n 38 [] [.r, .r, .l, .r, .l] (lastK funcTab 38))) a0 a1 := by kernel_rfl
  rw [h]
  simp only [laws_eqValueS_ELP0]
  rfl
end Go.G

namespace Go.G
set_option maxRecDepth 100000
set_option maxHeartbeats 0
open Go Go.V
noncomputable def laws_markSchema_e (D : Den ctx) (n : Nat) (a0 : List (ByteArray × Int × Bool × Unit) × List Int × List (ByteArray × List Int × Bool × Unit) × Unit) (a1 : Int) : Option ((Int × Unit) × (List (ByteArray × Int × Bool × Unit) × List Int × List (ByteArray × List Int × Bool × Unit) × Unit) × Unit) := bindD (C_laws_markColS D (Prod.fst a0) a1) fun b ↦ bindD (C_laws_markIntS D (Prod.fst (Prod.snd a0)) (Prod.fst (Prod.fst b))) fun b_1 ↦ bindD (C_laws_markIndexS D (Prod.fst (Prod.snd (Prod.snd a0))) (Prod.fst (Prod.fst b_1))) fun b_2 ↦ some ((Prod.fst (Prod.fst b_2), ()), (Prod.fst (Prod.snd b), Prod.fst (Prod.snd b_1), Prod.fst (Prod.snd b_2), ()), ())
noncomputable def F_laws_markSchema (D : Den ctx) (n : Nat) (a0 : List (ByteArray × Int × Bool × Unit) × List Int × List (ByteArray × List Int × Bool × Unit) × Unit) (a1 : Int) : Option ((Int × Unit) × (List (ByteArray × Int × Bool × Unit) × List Int × List (ByteArray × List Int × Bool × Unit) × Unit) × Unit) := laws_markSchema_e D n a0 a1
theorem E_laws_markSchema (D : Den ctx) (n : Nat) (a0 : List (ByteArray × Int × Bool × Unit) × List Int × List (ByteArray × List Int × Bool × Unit) × Unit) (a1 : Int) : rfC funcTab D n 39 (a0, (a1, ())) = F_laws_markSchema D n a0 a1 := by kernel_rfl
end Go.G

namespace Go.G
set_option maxRecDepth 100000
set_option maxHeartbeats 0
open Go Go.V
noncomputable def laws_markValueS_b0 (D : Den ctx) (n : Nat) (go : Int → Int → List (Int × Int × ByteArray × Unit) → Option ((Int × Unit) × List (Int × Int × ByteArray × Unit) × Unit)) (K0 : Int → List (Int × Int × ByteArray × Unit) → Option ((Int × Unit) × List (Int × Int × ByteArray × Unit) × Unit)) (x0 : Int) (x1 : Int) (x2 : List (Int × Int × ByteArray × Unit)) : Option ((Int × Unit) × List (Int × Int × ByteArray × Unit) × Unit) := br (decide (x1 < (↑(List.length x2) : Int))) (br (decide (0 ≤ x1) && decide (x1 < (↑(List.length x2) : Int))) (br (decide (0 ≤ x1) && decide (x1 < (↑(List.length (List.set x2 (Int.toNat x1) (x0, Prod.snd (List.getD x2 (Int.toNat x1) (0, 0, ByteArray.empty, ()))))) : Int))) (bindD (C_laws_markText D (IntKind.wrap IntKind.i64 (IntKind.wrap IntKind.i64 (x0 + 1) + 1))) fun b ↦ br (decide (0 ≤ x1) && decide (x1 < (↑(List.length (List.set (List.set x2 (Int.toNat x1) (x0, Prod.snd (List.getD x2 (Int.toNat x1) (0, 0, ByteArray.empty, ())))) (Int.toNat x1) (Prod.fst (List.getD (List.set x2 (Int.toNat x1) (x0, Prod.snd (List.getD x2 (Int.toNat x1) (0, 0, ByteArray.empty, ())))) (Int.toNat x1) (0, 0, ByteArray.empty, ())), IntKind.wrap IntKind.i64 (x0 + 1), Prod.snd (Prod.snd (List.getD (List.set x2 (Int.toNat x1) (x0, Prod.snd (List.getD x2 (Int.toNat x1) (0, 0, ByteArray.empty, ())))) (Int.toNat x1) (0, 0, ByteArray.empty, ())))))) : Int))) (go (IntKind.wrap IntKind.i64 (IntKind.wrap IntKind.i64 (IntKind.wrap IntKind.i64 (x0 + 1) + 1) + 1)) (IntKind.wrap IntKind.i64 (x1 + 1)) (List.set (List.set (List.set x2 (Int.toNat x1) (x0, Prod.snd (List.getD x2 (Int.toNat x1) (0, 0, ByteArray.empty, ())))) (Int.toNat x1) (Prod.fst (List.getD (List.set x2 (Int.toNat x1) (x0, Prod.snd (List.getD x2 (Int.toNat x1) (0, 0, ByteArray.empty, ())))) (Int.toNat x1) (0, 0, ByteArray.empty, ())), IntKind.wrap IntKind.i64 (x0 + 1), Prod.snd (Prod.snd (List.getD (List.set x2 (Int.toNat x1) (x0, Prod.snd (List.getD x2 (Int.toNat x1) (0, 0, ByteArray.empty, ())))) (Int.toNat x1) (0, 0, ByteArray.empty, ()))))) (Int.toNat x1) (Prod.fst (List.getD (List.set (List.set x2 (Int.toNat x1) (x0, Prod.snd (List.getD x2 (Int.toNat x1) (0, 0, ByteArray.empty, ())))) (Int.toNat x1) (Prod.fst (List.getD (List.set x2 (Int.toNat x1) (x0, Prod.snd (List.getD x2 (Int.toNat x1) (0, 0, ByteArray.empty, ())))) (Int.toNat x1) (0, 0, ByteArray.empty, ())), IntKind.wrap IntKind.i64 (x0 + 1), Prod.snd (Prod.snd (List.getD (List.set x2 (Int.toNat x1) (x0, Prod.snd (List.getD x2 (Int.toNat x1) (0, 0, ByteArray.empty, ())))) (Int.toNat x1) (0, 0, ByteArray.empty, ()))))) (Int.toNat x1) (0, 0, ByteArray.empty, ())), Prod.fst (Prod.snd (List.getD (List.set (List.set x2 (Int.toNat x1) (x0, Prod.snd (List.getD x2 (Int.toNat x1) (0, 0, ByteArray.empty, ())))) (Int.toNat x1) (Prod.fst (List.getD (List.set x2 (Int.toNat x1) (x0, Prod.snd (List.getD x2 (Int.toNat x1) (0, 0, ByteArray.empty, ())))) (Int.toNat x1) (0, 0, ByteArray.empty, ())), IntKind.wrap IntKind.i64 (x0 + 1), Prod.snd (Prod.snd (List.getD (List.set x2 (Int.toNat x1) (x0, Prod.snd (List.getD x2 (Int.toNat x1) (0, 0, ByteArray.empty, ())))) (Int.toNat x1) (0, 0, ByteArray.empty, ()))))) (Int.toNat x1) (0, 0, ByteArray.empty, ()))), Prod.fst (Prod.fst b), Prod.snd (Prod.snd (Prod.snd (List.getD (List.set (List.set x2 (Int.toNat x1) (x0, Prod.snd (List.getD x2 (Int.toNat x1) (0, 0, ByteArray.empty, ())))) (Int.toNat x1) (Prod.fst (List.getD (List.set x2 (Int.toNat x1) (x0, Prod.snd (List.getD x2 (Int.toNat x1) (0, 0, ByteArray.empty, ())))) (Int.toNat x1) (0, 0, ByteArray.empty, ())), IntKind.wrap IntKind.i64 (x0 + 1), Prod.snd (Prod.snd (List.getD (List.set x2 (Int.toNat x1) (x0, Prod.snd (List.getD x2 (Int.toNat x1) (0, 0, ByteArray.empty, ())))) (Int.toNat x1) (0, 0, ByteArray.empty, ()))))) (Int.toNat x1) (0, 0, ByteArray.empty, ()))))))) none) none) none) (K0 x0 x2)
noncomputable def laws_markValueS_L0 (D : Den ctx) (n : Nat) (K0 : Int → List (Int × Int × ByteArray × Unit) → Option ((Int × Unit) × List (Int × Int × ByteArray × Unit) × Unit)) : Nat → (Int) → (Int) → (List (Int × Int × ByteArray × Unit)) → Option ((Int × Unit) × List (Int × Int × ByteArray × Unit) × Unit) | 0 => (fun x0 x1 x2 => none) | m + 1 => (fun x0 x1 x2 => laws_markValueS_b0 D n (laws_markValueS_L0 D n K0 m) K0 x0 x1 x2)
noncomputable def laws_markValueS_x0_0 (D : Den ctx) (n : Nat) (v0_0 : Int) (v0_1 : List (Int × Int × ByteArray × Unit)) : Option ((Int × Unit) × List (Int × Int × ByteArray × Unit) × Unit) := some ((v0_0, ()), v0_1, ())
noncomputable def laws_markValueS_LP0 (D : Den ctx) (n : Nat) : (Int) → (Int) → (List (Int × Int × ByteArray × Unit)) → Option ((Int × Unit) × List (Int × Int × ByteArray × Unit) × Unit) := (fun x0 x1 x2 => laws_markValueS_L0 D n (fun v0_0 v0_1 => laws_markValueS_x0_0 D n v0_0 v0_1) n x0 x1 x2)
noncomputable def laws_markValueS_e (D : Den ctx) (n : Nat) (lp0 : Int → Int → List (Int × Int × ByteArray × Unit) → Option ((Int × Unit) × List (Int × Int × ByteArray × Unit) × Unit)) (a0 : List (Int × Int × ByteArray × Unit)) (a1 : Int) : Option ((Int × Unit) × List (Int × Int × ByteArray × Unit) × Unit) := lp0 a1 0 a0
noncomputable def F_laws_markValueS (D : Den ctx) (n : Nat) (a0 : List (Int × Int × ByteArray × Unit)) (a1 : Int) : Option ((Int × Unit) × List (Int × Int × ByteArray × Unit) × Unit) := laws_markValueS_e D n (laws_markValueS_LP0 D n) a0 a1
def laws_markValueS_Q0 (x0 : Int) (x1 : Int) (x2 : List (Int × Int × ByteArray × Unit)) : St := stq 35 [(0, AV.brw 0 [] 1048576), (1, AV.val (Ty.int IntKind.i64) x0), (5, AV.val (Ty.int IntKind.i64) x1)] [(0, Root.mk (Ty.sl (Ty.pair (Ty.int IntKind.i64) (Ty.pair (Ty.int IntKind.i64) (Ty.pair Ty.str Ty.unit)))) (Mk.own 1048576 (Mk.pr Mk.no (Mk.pr Mk.no (Mk.pr Mk.no Mk.no)))) x2 false)]
def laws_markValueS_Q0_0 (v0_0 : Int) (v0_1 : List (Int × Int × ByteArray × Unit)) : St := stq 35 [(0, AV.brw 0 [] 1048576), (1, AV.val (Ty.int IntKind.i64) v0_0)] [(0, Root.mk (Ty.sl (Ty.pair (Ty.int IntKind.i64) (Ty.pair (Ty.int IntKind.i64) (Ty.pair Ty.str Ty.unit)))) (Mk.own 1048576 (Mk.pr Mk.no (Mk.pr Mk.no (Mk.pr Mk.no Mk.no)))) v0_1 false)]
theorem laws_markValueS_SB0 (D : Den ctx) (n : Nat) (m : Nat) (K : Ex → St → Option (Out ctx 40)) (x0 : Int) (x1 : Int) (x2 : List (Int × Int × ByteArray × Unit)) :
  LQ funcTab D n 40 [.r, .l, .r, .l] (m + 1) (laws_markValueS_Q0 x0 x1 x2) K = laws_markValueS_b0 D n (fun x0 x1 x2 => LQ funcTab D n 40 [.r, .l, .r, .l] m (laws_markValueS_Q0 x0 x1 x2) K) (fun v0_0 v0_1 => K (Ex.exit 0) (laws_markValueS_Q0_0 v0_0 v0_1)) x0 x1 x2 := by kernel_rfl
theorem laws_markValueS_EL0 (D : Den ctx) (n : Nat) (K : Ex → St → Option (Out ctx 40)) : ∀ (m : Nat) (x0 : Int) (x1 : Int) (x2 : List (Int × Int × ByteArray × Unit)), LQ funcTab D n 40 [.r, .l, .r, .l] m (laws_markValueS_Q0 x0 x1 x2) K = laws_markValueS_L0 D n (fun v0_0 v0_1 => K (Ex.exit 0) (laws_markValueS_Q0_0 v0_0 v0_1)) m x0 x1 x2
  | 0, x0, x1, x2 => LQ_zero ..
  | m + 1, x0, x1, x2 => by
    have ih : (fun x0 x1 x2 => LQ funcTab D n 40 [.r, .l, .r, .l] m (laws_markValueS_Q0 x0 x1 x2) K) = laws_markValueS_L0 D n (fun v0_0 v0_1 => K (Ex.exit 0) (laws_markValueS_Q0_0 v0_0 v0_1)) m := by funext x0 x1 x2; exact laws_markValueS_EL0 D n K m x0 x1 x2
    rw [laws_markValueS_SB0]
    rw [ih]; rfl
theorem laws_markValueS_X0_0 (D : Den ctx) (n : Nat) (v0_0 : Int) (v0_1 : List (Int × Int × ByteArray × Unit)) :
  (CQ funcTab D n 40 [] [.r, .l, .r, .l] (lastK funcTab 40)) (Ex.exit 0) (laws_markValueS_Q0_0 v0_0 v0_1) = laws_markValueS_x0_0 D n v0_0 v0_1 := by kernel_rfl
theorem laws_markValueS_ELP0 (D : Den ctx) (n : Nat) (x0 : Int) (x1 : Int) (x2 : List (Int × Int × ByteArray × Unit)) :
  LQ funcTab D n 40 [.r, .l, .r, .l] n (laws_markValueS_Q0 x0 x1 x2) (CQ funcTab D n 40 [] [.r, .l, .r, .l] (lastK funcTab 40)) = laws_markValueS_LP0 D n x0 x1 x2 := by
  rw [laws_markValueS_EL0]
  simp only [laws_markValueS_X0_0]
  rfl
theorem E_laws_markValueS (D : Den ctx) (n : Nat) (a0 : List (Int × Int × ByteArray × Unit)) (a1 : Int) : rfC funcTab D n 40 (a0, (a1, ())) = F_laws_markValueS D n a0 a1 := by
  have h : rfC funcTab D n 40 (a0, (a1, ())) = laws_markValueS_e D n (fun x0 x1 x2 => LQ funcTab D n 40 [.r, .l, .r, .l] n (laws_markValueS_Q0 x0 x1 x2) (CQ funcTab D n 40 [] [.r, .l, .r, .l] (lastK funcTab 40))) a0 a1 := by kernel_rfl
  rw [h]
  simp only [laws_markValueS_ELP0]
  rfl
end Go.G

namespace Go.G
set_option maxRecDepth 100000
set_option maxHeartbeats 0
open Go Go.V
noncomputable def laws_heldValueS_b0 (D : Den ctx) (n : Nat) (go : List (Int × Int × ByteArray × Unit) → Int → Int → Option ((Int × Unit) × Unit)) (K0 : Int → Int → Option ((Int × Unit) × Unit)) (K1 : Int → Option ((Int × Unit) × Unit)) (x0 : List (Int × Int × ByteArray × Unit)) (x1 : Int) (x2 : Int) : Option ((Int × Unit) × Unit) := br (decide (x2 < (↑(List.length x0) : Int))) (br (decide (0 ≤ x2) && decide (x2 < (↑(List.length x0) : Int))) (br (Prod.fst (List.getD x0 (Int.toNat x2) (0, 0, ByteArray.empty, ())) != x1) (K0 x1 (-1)) (br (decide (0 ≤ x2) && decide (x2 < (↑(List.length x0) : Int))) (br (Prod.fst (Prod.snd (List.getD x0 (Int.toNat x2) (0, 0, ByteArray.empty, ()))) != IntKind.wrap IntKind.i64 (x1 + 1)) (K0 (IntKind.wrap IntKind.i64 (x1 + 1)) (-1)) (br (decide (0 ≤ x2) && decide (x2 < (↑(List.length x0) : Int))) (bindD (C_laws_markText D (IntKind.wrap IntKind.i64 (IntKind.wrap IntKind.i64 (x1 + 1) + 1))) fun b ↦ br (!List.beq (ByteArray.toList (Prod.fst (Prod.snd (Prod.snd (List.getD x0 (Int.toNat x2) (0, 0, ByteArray.empty, ())))))) (ByteArray.toList (Prod.fst (Prod.fst b)))) (K0 (IntKind.wrap IntKind.i64 (IntKind.wrap IntKind.i64 (x1 + 1) + 1)) (-1)) (go x0 (IntKind.wrap IntKind.i64 (IntKind.wrap IntKind.i64 (IntKind.wrap IntKind.i64 (x1 + 1) + 1) + 1)) (IntKind.wrap IntKind.i64 (x2 + 1)))) none)) none)) none) (K1 x1)
noncomputable def laws_heldValueS_L0 (D : Den ctx) (n : Nat) (K0 : Int → Int → Option ((Int × Unit) × Unit)) (K1 : Int → Option ((Int × Unit) × Unit)) : Nat → (List (Int × Int × ByteArray × Unit)) → (Int) → (Int) → Option ((Int × Unit) × Unit) | 0 => (fun x0 x1 x2 => none) | m + 1 => (fun x0 x1 x2 => laws_heldValueS_b0 D n (laws_heldValueS_L0 D n K0 K1 m) K0 K1 x0 x1 x2)
noncomputable def laws_heldValueS_x0_0 (D : Den ctx) (n : Nat) (v0_0 : Int) (v0_1 : Int) : Option ((Int × Unit) × Unit) := some ((v0_1, ()), ())
noncomputable def laws_heldValueS_x0_1 (D : Den ctx) (n : Nat) (v1_0 : Int) : Option ((Int × Unit) × Unit) := some ((v1_0, ()), ())
noncomputable def laws_heldValueS_LP0 (D : Den ctx) (n : Nat) : (List (Int × Int × ByteArray × Unit)) → (Int) → (Int) → Option ((Int × Unit) × Unit) := (fun x0 x1 x2 => laws_heldValueS_L0 D n (fun v0_0 v0_1 => laws_heldValueS_x0_0 D n v0_0 v0_1) (fun v1_0 => laws_heldValueS_x0_1 D n v1_0) n x0 x1 x2)
noncomputable def laws_heldValueS_e (D : Den ctx) (n : Nat) (lp0 : List (Int × Int × ByteArray × Unit) → Int → Int → Option ((Int × Unit) × Unit)) (a0 : List (Int × Int × ByteArray × Unit)) (a1 : Int) : Option ((Int × Unit) × Unit) := lp0 a0 a1 0
noncomputable def F_laws_heldValueS (D : Den ctx) (n : Nat) (a0 : List (Int × Int × ByteArray × Unit)) (a1 : Int) : Option ((Int × Unit) × Unit) := laws_heldValueS_e D n (laws_heldValueS_LP0 D n) a0 a1
def laws_heldValueS_Q0 (x0 : List (Int × Int × ByteArray × Unit)) (x1 : Int) (x2 : Int) : St := stq 41 [(0, AV.val (Ty.sl (Ty.pair (Ty.int IntKind.i64) (Ty.pair (Ty.int IntKind.i64) (Ty.pair Ty.str Ty.unit)))) x0), (1, AV.val (Ty.int IntKind.i64) x1), (5, AV.val (Ty.int IntKind.i64) x2)] []
def laws_heldValueS_Q0_0 (v0_0 : Int) (v0_1 : Int) : St := stq 41 [(1, AV.val (Ty.int IntKind.i64) v0_0), (4, AV.val (Ty.int IntKind.i64) v0_1)] []
def laws_heldValueS_Q0_1 (v1_0 : Int) : St := stq 41 [(1, AV.val (Ty.int IntKind.i64) v1_0)] []
theorem laws_heldValueS_SB0 (D : Den ctx) (n : Nat) (m : Nat) (K : Ex → St → Option (Out ctx 41)) (x0 : List (Int × Int × ByteArray × Unit)) (x1 : Int) (x2 : Int) :
  LQ funcTab D n 41 [.r, .l, .r, .l] (m + 1) (laws_heldValueS_Q0 x0 x1 x2) K = laws_heldValueS_b0 D n (fun x0 x1 x2 => LQ funcTab D n 41 [.r, .l, .r, .l] m (laws_heldValueS_Q0 x0 x1 x2) K) (fun v0_0 v0_1 => K (Ex.ret) (laws_heldValueS_Q0_0 v0_0 v0_1)) (fun v1_0 => K (Ex.exit 0) (laws_heldValueS_Q0_1 v1_0)) x0 x1 x2 := by kernel_rfl
theorem laws_heldValueS_EL0 (D : Den ctx) (n : Nat) (K : Ex → St → Option (Out ctx 41)) : ∀ (m : Nat) (x0 : List (Int × Int × ByteArray × Unit)) (x1 : Int) (x2 : Int), LQ funcTab D n 41 [.r, .l, .r, .l] m (laws_heldValueS_Q0 x0 x1 x2) K = laws_heldValueS_L0 D n (fun v0_0 v0_1 => K (Ex.ret) (laws_heldValueS_Q0_0 v0_0 v0_1)) (fun v1_0 => K (Ex.exit 0) (laws_heldValueS_Q0_1 v1_0)) m x0 x1 x2
  | 0, x0, x1, x2 => LQ_zero ..
  | m + 1, x0, x1, x2 => by
    have ih : (fun x0 x1 x2 => LQ funcTab D n 41 [.r, .l, .r, .l] m (laws_heldValueS_Q0 x0 x1 x2) K) = laws_heldValueS_L0 D n (fun v0_0 v0_1 => K (Ex.ret) (laws_heldValueS_Q0_0 v0_0 v0_1)) (fun v1_0 => K (Ex.exit 0) (laws_heldValueS_Q0_1 v1_0)) m := by funext x0 x1 x2; exact laws_heldValueS_EL0 D n K m x0 x1 x2
    rw [laws_heldValueS_SB0]
    rw [ih]; rfl
theorem laws_heldValueS_X0_0 (D : Den ctx) (n : Nat) (v0_0 : Int) (v0_1 : Int) :
  (CQ funcTab D n 41 [] [.r, .l, .r, .l] (lastK funcTab 41)) (Ex.ret) (laws_heldValueS_Q0_0 v0_0 v0_1) = laws_heldValueS_x0_0 D n v0_0 v0_1 := by kernel_rfl
theorem laws_heldValueS_X0_1 (D : Den ctx) (n : Nat) (v1_0 : Int) :
  (CQ funcTab D n 41 [] [.r, .l, .r, .l] (lastK funcTab 41)) (Ex.exit 0) (laws_heldValueS_Q0_1 v1_0) = laws_heldValueS_x0_1 D n v1_0 := by kernel_rfl
theorem laws_heldValueS_ELP0 (D : Den ctx) (n : Nat) (x0 : List (Int × Int × ByteArray × Unit)) (x1 : Int) (x2 : Int) :
  LQ funcTab D n 41 [.r, .l, .r, .l] n (laws_heldValueS_Q0 x0 x1 x2) (CQ funcTab D n 41 [] [.r, .l, .r, .l] (lastK funcTab 41)) = laws_heldValueS_LP0 D n x0 x1 x2 := by
  rw [laws_heldValueS_EL0]
  simp only [laws_heldValueS_X0_0, laws_heldValueS_X0_1]
  rfl
theorem E_laws_heldValueS (D : Den ctx) (n : Nat) (a0 : List (Int × Int × ByteArray × Unit)) (a1 : Int) : rfC funcTab D n 41 (a0, (a1, ())) = F_laws_heldValueS D n a0 a1 := by
  have h : rfC funcTab D n 41 (a0, (a1, ())) = laws_heldValueS_e D n (fun x0 x1 x2 => LQ funcTab D n 41 [.r, .l, .r, .l] n (laws_heldValueS_Q0 x0 x1 x2) (CQ funcTab D n 41 [] [.r, .l, .r, .l] (lastK funcTab 41))) a0 a1 := by kernel_rfl
  rw [h]
  simp only [laws_heldValueS_ELP0]
  rfl
end Go.G

namespace Go.G
set_option maxRecDepth 100000
set_option maxHeartbeats 0
open Go Go.V
noncomputable def impl_Project_b0 (D : Den ctx) (n : Nat) (go : List (Int × Int × ByteArray × Unit) → List Int → Int → Int → List (Int × Int × ByteArray × Unit) → Option ((List (Int × Int × ByteArray × Unit) × Unit) × Unit)) (K0 : List (Int × Int × ByteArray × Unit) → Option ((List (Int × Int × ByteArray × Unit) × Unit) × Unit)) (x0 : List (Int × Int × ByteArray × Unit)) (x1 : List Int) (x2 : Int) (x3 : Int) (x4 : List (Int × Int × ByteArray × Unit)) : Option ((List (Int × Int × ByteArray × Unit) × Unit) × Unit) := br (decide (x3 < x2)) (br (decide (0 ≤ x3) && decide (x3 < (↑(List.length x1) : Int))) (bindD (C_impl_from D (List.getD x1 (Int.toNat x3) 0) 0 (IntKind.wrap IntKind.i64 ((↑(List.length x0) : Int) - 1))) fun b ↦ br (Prod.fst (Prod.fst b)) (br (decide (0 ≤ List.getD x1 (Int.toNat x3) 0) && decide (List.getD x1 (Int.toNat x3) 0 < (↑(List.length x0) : Int))) (br (decide (List.length x4 + 1 ≤ bound)) (go x0 x1 x2 (IntKind.wrap IntKind.i64 (x3 + 1)) (x4 ++ [List.getD x0 (Int.toNat (List.getD x1 (Int.toNat x3) 0)) (0, 0, ByteArray.empty, ())])) none) none) (go x0 x1 x2 (IntKind.wrap IntKind.i64 (x3 + 1)) x4)) none) (K0 x4)
noncomputable def impl_Project_L0 (D : Den ctx) (n : Nat) (K0 : List (Int × Int × ByteArray × Unit) → Option ((List (Int × Int × ByteArray × Unit) × Unit) × Unit)) : Nat → (List (Int × Int × ByteArray × Unit)) → (List Int) → (Int) → (Int) → (List (Int × Int × ByteArray × Unit)) → Option ((List (Int × Int × ByteArray × Unit) × Unit) × Unit) | 0 => (fun x0 x1 x2 x3 x4 => none) | m + 1 => (fun x0 x1 x2 x3 x4 => impl_Project_b0 D n (impl_Project_L0 D n K0 m) K0 x0 x1 x2 x3 x4)
noncomputable def impl_Project_x0_0 (D : Den ctx) (n : Nat) (v0_0 : List (Int × Int × ByteArray × Unit)) : Option ((List (Int × Int × ByteArray × Unit) × Unit) × Unit) := some ((v0_0, ()), ())
noncomputable def impl_Project_LP0 (D : Den ctx) (n : Nat) : (List (Int × Int × ByteArray × Unit)) → (List Int) → (Int) → (Int) → (List (Int × Int × ByteArray × Unit)) → Option ((List (Int × Int × ByteArray × Unit) × Unit) × Unit) := (fun x0 x1 x2 x3 x4 => impl_Project_L0 D n (fun v0_0 => impl_Project_x0_0 D n v0_0) n x0 x1 x2 x3 x4)
noncomputable def impl_Project_e (D : Den ctx) (n : Nat) (lp0 : List (Int × Int × ByteArray × Unit) → List Int → Int → Int → List (Int × Int × ByteArray × Unit) → Option ((List (Int × Int × ByteArray × Unit) × Unit) × Unit)) (a0 : List (Int × Int × ByteArray × Unit)) (a1 : List Int) : Option ((List (Int × Int × ByteArray × Unit) × Unit) × Unit) := lp0 a0 a1 (↑(List.length a1) : Int) 0 []
noncomputable def F_impl_Project (D : Den ctx) (n : Nat) (a0 : List (Int × Int × ByteArray × Unit)) (a1 : List Int) : Option ((List (Int × Int × ByteArray × Unit) × Unit) × Unit) := impl_Project_e D n (impl_Project_LP0 D n) a0 a1
def impl_Project_Q0 (x0 : List (Int × Int × ByteArray × Unit)) (x1 : List Int) (x2 : Int) (x3 : Int) (x4 : List (Int × Int × ByteArray × Unit)) : St := stq 29 [(0, AV.val (Ty.sl (Ty.pair (Ty.int IntKind.i64) (Ty.pair (Ty.int IntKind.i64) (Ty.pair Ty.str Ty.unit)))) x0), (5, AV.brw 5 [] 0), (9, AV.val (Ty.sl (Ty.int IntKind.i64)) x1), (10, AV.val (Ty.int IntKind.i64) x2), (11, AV.val (Ty.int IntKind.i64) x3)] [(5, Root.mk (Ty.sl (Ty.pair (Ty.int IntKind.i64) (Ty.pair (Ty.int IntKind.i64) (Ty.pair Ty.str Ty.unit)))) (Mk.own 0 (Mk.pr Mk.no (Mk.pr Mk.no (Mk.pr Mk.no Mk.no)))) x4 false)]
def impl_Project_Q0_0 (v0_0 : List (Int × Int × ByteArray × Unit)) : St := stq 29 [(5, AV.brw 5 [] 0)] [(5, Root.mk (Ty.sl (Ty.pair (Ty.int IntKind.i64) (Ty.pair (Ty.int IntKind.i64) (Ty.pair Ty.str Ty.unit)))) (Mk.own 0 (Mk.pr Mk.no (Mk.pr Mk.no (Mk.pr Mk.no Mk.no)))) v0_0 false)]
theorem impl_Project_SB0 (D : Den ctx) (n : Nat) (m : Nat) (K : Ex → St → Option (Out ctx 56)) (x0 : List (Int × Int × ByteArray × Unit)) (x1 : List Int) (x2 : Int) (x3 : Int) (x4 : List (Int × Int × ByteArray × Unit)) :
  LQ funcTab D n 56 [.r, .r, .l, .r, .l] (m + 1) (impl_Project_Q0 x0 x1 x2 x3 x4) K = impl_Project_b0 D n (fun x0 x1 x2 x3 x4 => LQ funcTab D n 56 [.r, .r, .l, .r, .l] m (impl_Project_Q0 x0 x1 x2 x3 x4) K) (fun v0_0 => K (Ex.exit 0) (impl_Project_Q0_0 v0_0)) x0 x1 x2 x3 x4 := by kernel_rfl
theorem impl_Project_EL0 (D : Den ctx) (n : Nat) (K : Ex → St → Option (Out ctx 56)) : ∀ (m : Nat) (x0 : List (Int × Int × ByteArray × Unit)) (x1 : List Int) (x2 : Int) (x3 : Int) (x4 : List (Int × Int × ByteArray × Unit)), LQ funcTab D n 56 [.r, .r, .l, .r, .l] m (impl_Project_Q0 x0 x1 x2 x3 x4) K = impl_Project_L0 D n (fun v0_0 => K (Ex.exit 0) (impl_Project_Q0_0 v0_0)) m x0 x1 x2 x3 x4
  | 0, x0, x1, x2, x3, x4 => LQ_zero ..
  | m + 1, x0, x1, x2, x3, x4 => by
    have ih : (fun x0 x1 x2 x3 x4 => LQ funcTab D n 56 [.r, .r, .l, .r, .l] m (impl_Project_Q0 x0 x1 x2 x3 x4) K) = impl_Project_L0 D n (fun v0_0 => K (Ex.exit 0) (impl_Project_Q0_0 v0_0)) m := by funext x0 x1 x2 x3 x4; exact impl_Project_EL0 D n K m x0 x1 x2 x3 x4
    rw [impl_Project_SB0]
    rw [ih]; rfl
theorem impl_Project_X0_0 (D : Den ctx) (n : Nat) (v0_0 : List (Int × Int × ByteArray × Unit)) :
  (CQ funcTab D n 56 [] [.r, .r, .l, .r, .l] (lastK funcTab 56)) (Ex.exit 0) (impl_Project_Q0_0 v0_0) = impl_Project_x0_0 D n v0_0 := by kernel_rfl
theorem impl_Project_ELP0 (D : Den ctx) (n : Nat) (x0 : List (Int × Int × ByteArray × Unit)) (x1 : List Int) (x2 : Int) (x3 : Int) (x4 : List (Int × Int × ByteArray × Unit)) :
  LQ funcTab D n 56 [.r, .r, .l, .r, .l] n (impl_Project_Q0 x0 x1 x2 x3 x4) (CQ funcTab D n 56 [] [.r, .r, .l, .r, .l] (lastK funcTab 56)) = impl_Project_LP0 D n x0 x1 x2 x3 x4 := by
  rw [impl_Project_EL0]
  simp only [impl_Project_X0_0]
  rfl
theorem E_impl_Project (D : Den ctx) (n : Nat) (a0 : List (Int × Int × ByteArray × Unit)) (a1 : List Int) : rfC funcTab D n 56 (a0, (a1, ())) = F_impl_Project D n a0 a1 := by
  have h : rfC funcTab D n 56 (a0, (a1, ())) = impl_Project_e D n (fun x0 x1 x2 x3 x4 => LQ funcTab D n 56 [.r, .r, .l, .r, .l] n (impl_Project_Q0 x0 x1 x2 x3 x4) (CQ funcTab D n 56 [] [.r, .r, .l, .r, .l] (lastK funcTab 56))) a0 a1 := by kernel_rfl
  rw [h]
  simp only [impl_Project_ELP0]
  rfl
end Go.G

namespace Go.G
set_option maxRecDepth 100000
set_option maxHeartbeats 0
open Go Go.V
noncomputable def laws_szColS_b0 (D : Den ctx) (n : Nat) (go : List (ByteArray × Int × Bool × Unit) → Int → Int → Option ((Int × Unit) × Unit)) (K0 : Int → Int → Option ((Int × Unit) × Unit)) (K1 : Int → Option ((Int × Unit) × Unit)) (x0 : List (ByteArray × Int × Bool × Unit)) (x1 : Int) (x2 : Int) : Option ((Int × Unit) × Unit) := br (decide (x2 < (↑(List.length x0) : Int))) (br (decide (0 ≤ x2) && decide (x2 < (↑(List.length x0) : Int))) (bindD (C_laws_szCol D (List.getD x0 (Int.toNat x2) (ByteArray.empty, 0, false, ())) x1) fun b ↦ br (decide (Prod.fst (Prod.fst b) < 0)) (K0 (Prod.fst (Prod.fst b)) (-1)) (go x0 (Prod.fst (Prod.fst b)) (IntKind.wrap IntKind.i64 (x2 + 1)))) none) (K1 x1)
noncomputable def laws_szColS_L0 (D : Den ctx) (n : Nat) (K0 : Int → Int → Option ((Int × Unit) × Unit)) (K1 : Int → Option ((Int × Unit) × Unit)) : Nat → (List (ByteArray × Int × Bool × Unit)) → (Int) → (Int) → Option ((Int × Unit) × Unit) | 0 => (fun x0 x1 x2 => none) | m + 1 => (fun x0 x1 x2 => laws_szColS_b0 D n (laws_szColS_L0 D n K0 K1 m) K0 K1 x0 x1 x2)
noncomputable def laws_szColS_x0_0 (D : Den ctx) (n : Nat) (v0_0 : Int) (v0_1 : Int) : Option ((Int × Unit) × Unit) := some ((v0_1, ()), ())
noncomputable def laws_szColS_x0_1 (D : Den ctx) (n : Nat) (v1_0 : Int) : Option ((Int × Unit) × Unit) := some ((v1_0, ()), ())
noncomputable def laws_szColS_LP0 (D : Den ctx) (n : Nat) : (List (ByteArray × Int × Bool × Unit)) → (Int) → (Int) → Option ((Int × Unit) × Unit) := (fun x0 x1 x2 => laws_szColS_L0 D n (fun v0_0 v0_1 => laws_szColS_x0_0 D n v0_0 v0_1) (fun v1_0 => laws_szColS_x0_1 D n v1_0) n x0 x1 x2)
noncomputable def laws_szColS_e (D : Den ctx) (n : Nat) (lp0 : List (ByteArray × Int × Bool × Unit) → Int → Int → Option ((Int × Unit) × Unit)) (a0 : List (ByteArray × Int × Bool × Unit)) (a1 : Int) : Option ((Int × Unit) × Unit) := br (decide (IntKind.wrap IntKind.i64 (a1 - (↑(List.length a0) : Int)) < 0)) (some ((-1, ()), ())) (lp0 a0 (IntKind.wrap IntKind.i64 (a1 - (↑(List.length a0) : Int))) 0)
noncomputable def F_laws_szColS (D : Den ctx) (n : Nat) (a0 : List (ByteArray × Int × Bool × Unit)) (a1 : Int) : Option ((Int × Unit) × Unit) := laws_szColS_e D n (laws_szColS_LP0 D n) a0 a1
def laws_szColS_Q0 (x0 : List (ByteArray × Int × Bool × Unit)) (x1 : Int) (x2 : Int) : St := stq 27 [(0, AV.val (Ty.sl (Ty.pair Ty.str (Ty.pair (Ty.int IntKind.i64) (Ty.pair Ty.bool Ty.unit)))) x0), (1, AV.val (Ty.int IntKind.i64) x1), (5, AV.val (Ty.int IntKind.i64) x2)] []
def laws_szColS_Q0_0 (v0_0 : Int) (v0_1 : Int) : St := stq 27 [(1, AV.val (Ty.int IntKind.i64) v0_0), (4, AV.val (Ty.int IntKind.i64) v0_1)] []
def laws_szColS_Q0_1 (v1_0 : Int) : St := stq 27 [(1, AV.val (Ty.int IntKind.i64) v1_0)] []
theorem laws_szColS_SB0 (D : Den ctx) (n : Nat) (m : Nat) (K : Ex → St → Option (Out ctx 70)) (x0 : List (ByteArray × Int × Bool × Unit)) (x1 : Int) (x2 : Int) :
  LQ funcTab D n 70 [.r, .r, .r, .l, .r, .l] (m + 1) (laws_szColS_Q0 x0 x1 x2) K = laws_szColS_b0 D n (fun x0 x1 x2 => LQ funcTab D n 70 [.r, .r, .r, .l, .r, .l] m (laws_szColS_Q0 x0 x1 x2) K) (fun v0_0 v0_1 => K (Ex.ret) (laws_szColS_Q0_0 v0_0 v0_1)) (fun v1_0 => K (Ex.exit 0) (laws_szColS_Q0_1 v1_0)) x0 x1 x2 := by kernel_rfl
theorem laws_szColS_EL0 (D : Den ctx) (n : Nat) (K : Ex → St → Option (Out ctx 70)) : ∀ (m : Nat) (x0 : List (ByteArray × Int × Bool × Unit)) (x1 : Int) (x2 : Int), LQ funcTab D n 70 [.r, .r, .r, .l, .r, .l] m (laws_szColS_Q0 x0 x1 x2) K = laws_szColS_L0 D n (fun v0_0 v0_1 => K (Ex.ret) (laws_szColS_Q0_0 v0_0 v0_1)) (fun v1_0 => K (Ex.exit 0) (laws_szColS_Q0_1 v1_0)) m x0 x1 x2
  | 0, x0, x1, x2 => LQ_zero ..
  | m + 1, x0, x1, x2 => by
    have ih : (fun x0 x1 x2 => LQ funcTab D n 70 [.r, .r, .r, .l, .r, .l] m (laws_szColS_Q0 x0 x1 x2) K) = laws_szColS_L0 D n (fun v0_0 v0_1 => K (Ex.ret) (laws_szColS_Q0_0 v0_0 v0_1)) (fun v1_0 => K (Ex.exit 0) (laws_szColS_Q0_1 v1_0)) m := by funext x0 x1 x2; exact laws_szColS_EL0 D n K m x0 x1 x2
    rw [laws_szColS_SB0]
    rw [ih]; rfl
theorem laws_szColS_X0_0 (D : Den ctx) (n : Nat) (v0_0 : Int) (v0_1 : Int) :
  (CQ funcTab D n 70 [] [.r, .r, .r, .l, .r, .l] (lastK funcTab 70)) (Ex.ret) (laws_szColS_Q0_0 v0_0 v0_1) = laws_szColS_x0_0 D n v0_0 v0_1 := by kernel_rfl
theorem laws_szColS_X0_1 (D : Den ctx) (n : Nat) (v1_0 : Int) :
  (CQ funcTab D n 70 [] [.r, .r, .r, .l, .r, .l] (lastK funcTab 70)) (Ex.exit 0) (laws_szColS_Q0_1 v1_0) = laws_szColS_x0_1 D n v1_0 := by kernel_rfl
theorem laws_szColS_ELP0 (D : Den ctx) (n : Nat) (x0 : List (ByteArray × Int × Bool × Unit)) (x1 : Int) (x2 : Int) :
  LQ funcTab D n 70 [.r, .r, .r, .l, .r, .l] n (laws_szColS_Q0 x0 x1 x2) (CQ funcTab D n 70 [] [.r, .r, .r, .l, .r, .l] (lastK funcTab 70)) = laws_szColS_LP0 D n x0 x1 x2 := by
  rw [laws_szColS_EL0]
  simp only [laws_szColS_X0_0, laws_szColS_X0_1]
  rfl
theorem E_laws_szColS (D : Den ctx) (n : Nat) (a0 : List (ByteArray × Int × Bool × Unit)) (a1 : Int) : rfC funcTab D n 70 (a0, (a1, ())) = F_laws_szColS D n a0 a1 := by
  have h : rfC funcTab D n 70 (a0, (a1, ())) = laws_szColS_e D n (fun x0 x1 x2 => LQ funcTab D n 70 [.r, .r, .r, .l, .r, .l] n (laws_szColS_Q0 x0 x1 x2) (CQ funcTab D n 70 [] [.r, .r, .r, .l, .r, .l] (lastK funcTab 70))) a0 a1 := by kernel_rfl
  rw [h]
  simp only [laws_szColS_ELP0]
  rfl
end Go.G

namespace Go.G
set_option maxRecDepth 100000
set_option maxHeartbeats 0
open Go Go.V
noncomputable def laws_szIntS_e (D : Den ctx) (n : Nat) (a0 : List Int) (a1 : Int) : Option ((Int × Unit) × Unit) := br (decide (IntKind.wrap IntKind.i64 (a1 - (↑(List.length a0) : Int)) < 0)) (some ((-1, ()), ())) (some ((IntKind.wrap IntKind.i64 (a1 - (↑(List.length a0) : Int)), ()), ()))
noncomputable def F_laws_szIntS (D : Den ctx) (n : Nat) (a0 : List Int) (a1 : Int) : Option ((Int × Unit) × Unit) := laws_szIntS_e D n a0 a1
theorem E_laws_szIntS (D : Den ctx) (n : Nat) (a0 : List Int) (a1 : Int) : rfC funcTab D n 71 (a0, (a1, ())) = F_laws_szIntS D n a0 a1 := by kernel_rfl
end Go.G

namespace Go.G
set_option maxRecDepth 100000
set_option maxHeartbeats 0
open Go Go.V
noncomputable def laws_szIndexS_b0 (D : Den ctx) (n : Nat) (go : List (ByteArray × List Int × Bool × Unit) → Int → Int → Option ((Int × Unit) × Unit)) (K0 : Int → Int → Option ((Int × Unit) × Unit)) (K1 : Int → Option ((Int × Unit) × Unit)) (x0 : List (ByteArray × List Int × Bool × Unit)) (x1 : Int) (x2 : Int) : Option ((Int × Unit) × Unit) := br (decide (x2 < (↑(List.length x0) : Int))) (br (decide (0 ≤ x2) && decide (x2 < (↑(List.length x0) : Int))) (bindD (C_laws_szIndex D (List.getD x0 (Int.toNat x2) (ByteArray.empty, [], false, ())) x1) fun b ↦ br (decide (Prod.fst (Prod.fst b) < 0)) (K0 (Prod.fst (Prod.fst b)) (-1)) (go x0 (Prod.fst (Prod.fst b)) (IntKind.wrap IntKind.i64 (x2 + 1)))) none) (K1 x1)
noncomputable def laws_szIndexS_L0 (D : Den ctx) (n : Nat) (K0 : Int → Int → Option ((Int × Unit) × Unit)) (K1 : Int → Option ((Int × Unit) × Unit)) : Nat → (List (ByteArray × List Int × Bool × Unit)) → (Int) → (Int) → Option ((Int × Unit) × Unit) | 0 => (fun x0 x1 x2 => none) | m + 1 => (fun x0 x1 x2 => laws_szIndexS_b0 D n (laws_szIndexS_L0 D n K0 K1 m) K0 K1 x0 x1 x2)
noncomputable def laws_szIndexS_x0_0 (D : Den ctx) (n : Nat) (v0_0 : Int) (v0_1 : Int) : Option ((Int × Unit) × Unit) := some ((v0_1, ()), ())
noncomputable def laws_szIndexS_x0_1 (D : Den ctx) (n : Nat) (v1_0 : Int) : Option ((Int × Unit) × Unit) := some ((v1_0, ()), ())
noncomputable def laws_szIndexS_LP0 (D : Den ctx) (n : Nat) : (List (ByteArray × List Int × Bool × Unit)) → (Int) → (Int) → Option ((Int × Unit) × Unit) := (fun x0 x1 x2 => laws_szIndexS_L0 D n (fun v0_0 v0_1 => laws_szIndexS_x0_0 D n v0_0 v0_1) (fun v1_0 => laws_szIndexS_x0_1 D n v1_0) n x0 x1 x2)
noncomputable def laws_szIndexS_e (D : Den ctx) (n : Nat) (lp0 : List (ByteArray × List Int × Bool × Unit) → Int → Int → Option ((Int × Unit) × Unit)) (a0 : List (ByteArray × List Int × Bool × Unit)) (a1 : Int) : Option ((Int × Unit) × Unit) := br (decide (IntKind.wrap IntKind.i64 (a1 - (↑(List.length a0) : Int)) < 0)) (some ((-1, ()), ())) (lp0 a0 (IntKind.wrap IntKind.i64 (a1 - (↑(List.length a0) : Int))) 0)
noncomputable def F_laws_szIndexS (D : Den ctx) (n : Nat) (a0 : List (ByteArray × List Int × Bool × Unit)) (a1 : Int) : Option ((Int × Unit) × Unit) := laws_szIndexS_e D n (laws_szIndexS_LP0 D n) a0 a1
def laws_szIndexS_Q0 (x0 : List (ByteArray × List Int × Bool × Unit)) (x1 : Int) (x2 : Int) : St := stq 27 [(0, AV.val (Ty.sl (Ty.pair Ty.str (Ty.pair (Ty.sl (Ty.int IntKind.i64)) (Ty.pair Ty.bool Ty.unit)))) x0), (1, AV.val (Ty.int IntKind.i64) x1), (5, AV.val (Ty.int IntKind.i64) x2)] []
def laws_szIndexS_Q0_0 (v0_0 : Int) (v0_1 : Int) : St := stq 27 [(1, AV.val (Ty.int IntKind.i64) v0_0), (4, AV.val (Ty.int IntKind.i64) v0_1)] []
def laws_szIndexS_Q0_1 (v1_0 : Int) : St := stq 27 [(1, AV.val (Ty.int IntKind.i64) v1_0)] []
theorem laws_szIndexS_SB0 (D : Den ctx) (n : Nat) (m : Nat) (K : Ex → St → Option (Out ctx 72)) (x0 : List (ByteArray × List Int × Bool × Unit)) (x1 : Int) (x2 : Int) :
  LQ funcTab D n 72 [.r, .r, .r, .l, .r, .l] (m + 1) (laws_szIndexS_Q0 x0 x1 x2) K = laws_szIndexS_b0 D n (fun x0 x1 x2 => LQ funcTab D n 72 [.r, .r, .r, .l, .r, .l] m (laws_szIndexS_Q0 x0 x1 x2) K) (fun v0_0 v0_1 => K (Ex.ret) (laws_szIndexS_Q0_0 v0_0 v0_1)) (fun v1_0 => K (Ex.exit 0) (laws_szIndexS_Q0_1 v1_0)) x0 x1 x2 := by kernel_rfl
theorem laws_szIndexS_EL0 (D : Den ctx) (n : Nat) (K : Ex → St → Option (Out ctx 72)) : ∀ (m : Nat) (x0 : List (ByteArray × List Int × Bool × Unit)) (x1 : Int) (x2 : Int), LQ funcTab D n 72 [.r, .r, .r, .l, .r, .l] m (laws_szIndexS_Q0 x0 x1 x2) K = laws_szIndexS_L0 D n (fun v0_0 v0_1 => K (Ex.ret) (laws_szIndexS_Q0_0 v0_0 v0_1)) (fun v1_0 => K (Ex.exit 0) (laws_szIndexS_Q0_1 v1_0)) m x0 x1 x2
  | 0, x0, x1, x2 => LQ_zero ..
  | m + 1, x0, x1, x2 => by
    have ih : (fun x0 x1 x2 => LQ funcTab D n 72 [.r, .r, .r, .l, .r, .l] m (laws_szIndexS_Q0 x0 x1 x2) K) = laws_szIndexS_L0 D n (fun v0_0 v0_1 => K (Ex.ret) (laws_szIndexS_Q0_0 v0_0 v0_1)) (fun v1_0 => K (Ex.exit 0) (laws_szIndexS_Q0_1 v1_0)) m := by funext x0 x1 x2; exact laws_szIndexS_EL0 D n K m x0 x1 x2
    rw [laws_szIndexS_SB0]
    rw [ih]; rfl
theorem laws_szIndexS_X0_0 (D : Den ctx) (n : Nat) (v0_0 : Int) (v0_1 : Int) :
  (CQ funcTab D n 72 [] [.r, .r, .r, .l, .r, .l] (lastK funcTab 72)) (Ex.ret) (laws_szIndexS_Q0_0 v0_0 v0_1) = laws_szIndexS_x0_0 D n v0_0 v0_1 := by kernel_rfl
theorem laws_szIndexS_X0_1 (D : Den ctx) (n : Nat) (v1_0 : Int) :
  (CQ funcTab D n 72 [] [.r, .r, .r, .l, .r, .l] (lastK funcTab 72)) (Ex.exit 0) (laws_szIndexS_Q0_1 v1_0) = laws_szIndexS_x0_1 D n v1_0 := by kernel_rfl
theorem laws_szIndexS_ELP0 (D : Den ctx) (n : Nat) (x0 : List (ByteArray × List Int × Bool × Unit)) (x1 : Int) (x2 : Int) :
  LQ funcTab D n 72 [.r, .r, .r, .l, .r, .l] n (laws_szIndexS_Q0 x0 x1 x2) (CQ funcTab D n 72 [] [.r, .r, .r, .l, .r, .l] (lastK funcTab 72)) = laws_szIndexS_LP0 D n x0 x1 x2 := by
  rw [laws_szIndexS_EL0]
  simp only [laws_szIndexS_X0_0, laws_szIndexS_X0_1]
  rfl
theorem E_laws_szIndexS (D : Den ctx) (n : Nat) (a0 : List (ByteArray × List Int × Bool × Unit)) (a1 : Int) : rfC funcTab D n 72 (a0, (a1, ())) = F_laws_szIndexS D n a0 a1 := by
  have h : rfC funcTab D n 72 (a0, (a1, ())) = laws_szIndexS_e D n (fun x0 x1 x2 => LQ funcTab D n 72 [.r, .r, .r, .l, .r, .l] n (laws_szIndexS_Q0 x0 x1 x2) (CQ funcTab D n 72 [] [.r, .r, .r, .l, .r, .l] (lastK funcTab 72))) a0 a1 := by kernel_rfl
  rw [h]
  simp only [laws_szIndexS_ELP0]
  rfl
end Go.G

namespace Go.G
set_option maxRecDepth 100000
set_option maxHeartbeats 0
open Go Go.V
noncomputable def spec_l1In_e (D : Den ctx) (n : Nat) (a0 : Int) (a1 : Int) (a2 : Int) : Option ((Bool × Unit) × Unit) := some ((bif decide (a0 ≥ a1) then decide (a0 ≤ a2) else false, ()), ())
noncomputable def F_spec_l1In (D : Den ctx) (n : Nat) (a0 : Int) (a1 : Int) (a2 : Int) : Option ((Bool × Unit) × Unit) := spec_l1In_e D n a0 a1 a2
theorem E_spec_l1In (D : Den ctx) (n : Nat) (a0 : Int) (a1 : Int) (a2 : Int) : rfC funcTab D n 73 (a0, (a1, (a2, ()))) = F_spec_l1In D n a0 a1 a2 := by kernel_rfl
end Go.G

namespace Go.G
set_option maxRecDepth 100000
set_option maxHeartbeats 0
open Go Go.V
noncomputable def spec_l19Places_b1 (D : Den ctx) (n : Nat) (go : List Int → Int → Int → Int → List (ByteArray × Int × Bool × Unit) × List Int × List (ByteArray × List Int × Bool × Unit) × Unit → Option ((Bool × Unit) × Unit)) (K0 : List Int → Int → Bool → Int → List (ByteArray × Int × Bool × Unit) × List Int × List (ByteArray × List Int × Bool × Unit) × Unit → Option ((Bool × Unit) × Unit)) (K1 : List Int → Int → Int → List (ByteArray × Int × Bool × Unit) × List Int × List (ByteArray × List Int × Bool × Unit) × Unit → Option ((Bool × Unit) × Unit)) (x1_0 : List Int) (x1_1 : Int) (x1_2 : Int) (x1_3 : Int) (x1_4 : List (ByteArray × Int × Bool × Unit) × List Int × List (ByteArray × List Int × Bool × Unit) × Unit) : Option ((Bool × Unit) × Unit) := br (decide (x1_3 < x1_2)) (br (decide (0 ≤ x1_3) && decide (x1_3 < (↑(List.length x1_0) : Int))) (br (decide (0 ≤ x1_2) && decide (x1_2 < (↑(List.length x1_0) : Int))) (br (decide (List.getD x1_0 (Int.toNat x1_3) 0 = List.getD x1_0 (Int.toNat x1_2) 0)) (K0 x1_0 x1_1 false x1_2 x1_4) (go x1_0 x1_1 x1_2 (IntKind.wrap IntKind.i64 (x1_3 + 1)) x1_4)) none) none) (K1 x1_0 x1_1 x1_2 x1_4)
noncomputable def spec_l19Places_L1 (D : Den ctx) (n : Nat) (K0 : List Int → Int → Bool → Int → List (ByteArray × Int × Bool × Unit) × List Int × List (ByteArray × List Int × Bool × Unit) × Unit → Option ((Bool × Unit) × Unit)) (K1 : List Int → Int → Int → List (ByteArray × Int × Bool × Unit) × List Int × List (ByteArray × List Int × Bool × Unit) × Unit → Option ((Bool × Unit) × Unit)) : Nat → (List Int) → (Int) → (Int) → (Int) → (List (ByteArray × Int × Bool × Unit) × List Int × List (ByteArray × List Int × Bool × Unit) × Unit) → Option ((Bool × Unit) × Unit) | 0 => (fun x1_0 x1_1 x1_2 x1_3 x1_4 => none) | m + 1 => (fun x1_0 x1_1 x1_2 x1_3 x1_4 => spec_l19Places_b1 D n (spec_l19Places_L1 D n K0 K1 m) K0 K1 x1_0 x1_1 x1_2 x1_3 x1_4)
noncomputable def spec_l19Places_x1_0 (D : Den ctx) (n : Nat) (go : List Int → Int → Int → List (ByteArray × Int × Bool × Unit) × List Int × List (ByteArray × List Int × Bool × Unit) × Unit → Option ((Bool × Unit) × Unit)) (K0 : List Int → Int → Bool → Option ((Bool × Unit) × Unit)) (K1 : List Int → Int → Option ((Bool × Unit) × Unit)) (v0_0 : List Int) (v0_1 : Int) (v0_2 : Bool) (v0_3 : Int) (v0_4 : List (ByteArray × Int × Bool × Unit) × List Int × List (ByteArray × List Int × Bool × Unit) × Unit) : Option ((Bool × Unit) × Unit) := K0 v0_0 v0_1 v0_2
noncomputable def spec_l19Places_x1_1 (D : Den ctx) (n : Nat) (go : List Int → Int → Int → List (ByteArray × Int × Bool × Unit) × List Int × List (ByteArray × List Int × Bool × Unit) × Unit → Option ((Bool × Unit) × Unit)) (K0 : List Int → Int → Bool → Option ((Bool × Unit) × Unit)) (K1 : List Int → Int → Option ((Bool × Unit) × Unit)) (v1_0 : List Int) (v1_1 : Int) (v1_2 : Int) (v1_3 : List (ByteArray × Int × Bool × Unit) × List Int × List (ByteArray × List Int × Bool × Unit) × Unit) : Option ((Bool × Unit) × Unit) := go v1_0 v1_1 (IntKind.wrap IntKind.i64 (v1_2 + 1)) v1_3
noncomputable def spec_l19Places_LP1 (D : Den ctx) (n : Nat) (go : List Int → Int → Int → List (ByteArray × Int × Bool × Unit) × List Int × List (ByteArray × List Int × Bool × Unit) × Unit → Option ((Bool × Unit) × Unit)) (K0 : List Int → Int → Bool → Option ((Bool × Unit) × Unit)) (K1 : List Int → Int → Option ((Bool × Unit) × Unit)) : (List Int) → (Int) → (Int) → (Int) → (List (ByteArray × Int × Bool × Unit) × List Int × List (ByteArray × List Int × Bool × Unit) × Unit) → Option ((Bool × Unit) × Unit) := (fun x1_0 x1_1 x1_2 x1_3 x1_4 => spec_l19Places_L1 D n (fun v0_0 v0_1 v0_2 v0_3 v0_4 => spec_l19Places_x1_0 D n go K0 K1 v0_0 v0_1 v0_2 v0_3 v0_4) (fun v1_0 v1_1 v1_2 v1_3 => spec_l19Places_x1_1 D n go K0 K1 v1_0 v1_1 v1_2 v1_3) n x1_0 x1_1 x1_2 x1_3 x1_4)
noncomputable def spec_l19Places_b0 (D : Den ctx) (n : Nat) (go : List Int → Int → Int → List (ByteArray × Int × Bool × Unit) × List Int × List (ByteArray × List Int × Bool × Unit) × Unit → Option ((Bool × Unit) × Unit)) (K0 : List Int → Int → Bool → Option ((Bool × Unit) × Unit)) (K1 : List Int → Int → Option ((Bool × Unit) × Unit)) (lp1 : List Int → Int → Int → Int → List (ByteArray × Int × Bool × Unit) × List Int × List (ByteArray × List Int × Bool × Unit) × Unit → Option ((Bool × Unit) × Unit)) (x0 : List Int) (x1 : Int) (x2 : Int) (x3 : List (ByteArray × Int × Bool × Unit) × List Int × List (ByteArray × List Int × Bool × Unit) × Unit) : Option ((Bool × Unit) × Unit) := br (decide (x2 < (↑(List.length x0) : Int))) (br (decide (0 ≤ x2) && decide (x2 < (↑(List.length x0) : Int))) (bindD (C_spec_l1In D (List.getD x0 (Int.toNat x2) 0) 0 (IntKind.wrap IntKind.i64 ((↑(List.length (Prod.fst x3)) : Int) - 1))) fun b ↦ br (!Prod.fst (Prod.fst b)) (K0 x0 x1 false) (lp1 x0 x1 x2 0 x3)) none) (K1 x0 x1)
noncomputable def spec_l19Places_L0 (D : Den ctx) (n : Nat) (K0 : List Int → Int → Bool → Option ((Bool × Unit) × Unit)) (K1 : List Int → Int → Option ((Bool × Unit) × Unit)) : Nat → (List Int) → (Int) → (Int) → (List (ByteArray × Int × Bool × Unit) × List Int × List (ByteArray × List Int × Bool × Unit) × Unit) → Option ((Bool × Unit) × Unit) | 0 => (fun x0 x1 x2 x3 => none) | m + 1 => (fun x0 x1 x2 x3 => spec_l19Places_b0 D n (spec_l19Places_L0 D n K0 K1 m) K0 K1 (spec_l19Places_LP1 D n (spec_l19Places_L0 D n K0 K1 m) K0 K1) x0 x1 x2 x3)
noncomputable def spec_l19Places_x0_0 (D : Den ctx) (n : Nat) (v0_0 : List Int) (v0_1 : Int) (v0_2 : Bool) : Option ((Bool × Unit) × Unit) := some ((v0_2, ()), ())
noncomputable def spec_l19Places_x0_1 (D : Den ctx) (n : Nat) (v1_0 : List Int) (v1_1 : Int) : Option ((Bool × Unit) × Unit) := bindD (C_spec_l1In D (↑(List.length v1_0) : Int) 1 v1_1) fun b ↦ some ((Prod.fst (Prod.fst b), ()), ())
noncomputable def spec_l19Places_LP0 (D : Den ctx) (n : Nat) : (List Int) → (Int) → (Int) → (List (ByteArray × Int × Bool × Unit) × List Int × List (ByteArray × List Int × Bool × Unit) × Unit) → Option ((Bool × Unit) × Unit) := (fun x0 x1 x2 x3 => spec_l19Places_L0 D n (fun v0_0 v0_1 v0_2 => spec_l19Places_x0_0 D n v0_0 v0_1 v0_2) (fun v1_0 v1_1 => spec_l19Places_x0_1 D n v1_0 v1_1) n x0 x1 x2 x3)
noncomputable def spec_l19Places_e (D : Den ctx) (n : Nat) (lp0 : List Int → Int → Int → List (ByteArray × Int × Bool × Unit) × List Int × List (ByteArray × List Int × Bool × Unit) × Unit → Option ((Bool × Unit) × Unit)) (a0 : List (ByteArray × Int × Bool × Unit) × List Int × List (ByteArray × List Int × Bool × Unit) × Unit) (a1 : List Int) (a2 : Int) : Option ((Bool × Unit) × Unit) := lp0 a1 a2 0 a0
noncomputable def F_spec_l19Places (D : Den ctx) (n : Nat) (a0 : List (ByteArray × Int × Bool × Unit) × List Int × List (ByteArray × List Int × Bool × Unit) × Unit) (a1 : List Int) (a2 : Int) : Option ((Bool × Unit) × Unit) := spec_l19Places_e D n (spec_l19Places_LP0 D n) a0 a1 a2
def spec_l19Places_Q0 (x0 : List Int) (x1 : Int) (x2 : Int) (x3 : List (ByteArray × Int × Bool × Unit) × List Int × List (ByteArray × List Int × Bool × Unit) × Unit) : St := stq 43 [(1, AV.val (Ty.sl (Ty.int IntKind.i64)) x0), (2, AV.val (Ty.int IntKind.i64) x1), (3, AV.addr 3 []), (7, AV.val (Ty.int IntKind.i64) x2)] [(3, Root.mk (Ty.pair (Ty.sl (Ty.pair Ty.str (Ty.pair (Ty.int IntKind.i64) (Ty.pair Ty.bool Ty.unit)))) (Ty.pair (Ty.sl (Ty.int IntKind.i64)) (Ty.pair (Ty.sl (Ty.pair Ty.str (Ty.pair (Ty.sl (Ty.int IntKind.i64)) (Ty.pair Ty.bool Ty.unit)))) Ty.unit))) Mk.no x3 true)]
def spec_l19Places_Q0_0 (v0_0 : List Int) (v0_1 : Int) (v0_2 : Bool) : St := stq 43 [(1, AV.val (Ty.sl (Ty.int IntKind.i64)) v0_0), (2, AV.val (Ty.int IntKind.i64) v0_1), (6, AV.val Ty.bool v0_2)] []
def spec_l19Places_Q0_1 (v1_0 : List Int) (v1_1 : Int) : St := stq 43 [(1, AV.val (Ty.sl (Ty.int IntKind.i64)) v1_0), (2, AV.val (Ty.int IntKind.i64) v1_1)] []
def spec_l19Places_Q1 (x1_0 : List Int) (x1_1 : Int) (x1_2 : Int) (x1_3 : Int) (x1_4 : List (ByteArray × Int × Bool × Unit) × List Int × List (ByteArray × List Int × Bool × Unit) × Unit) : St := stq 43 [(1, AV.val (Ty.sl (Ty.int IntKind.i64)) x1_0), (2, AV.val (Ty.int IntKind.i64) x1_1), (3, AV.addr 3 []), (7, AV.val (Ty.int IntKind.i64) x1_2), (8, AV.val (Ty.int IntKind.i64) x1_3)] [(3, Root.mk (Ty.pair (Ty.sl (Ty.pair Ty.str (Ty.pair (Ty.int IntKind.i64) (Ty.pair Ty.bool Ty.unit)))) (Ty.pair (Ty.sl (Ty.int IntKind.i64)) (Ty.pair (Ty.sl (Ty.pair Ty.str (Ty.pair (Ty.sl (Ty.int IntKind.i64)) (Ty.pair Ty.bool Ty.unit)))) Ty.unit))) Mk.no x1_4 true)]
def spec_l19Places_Q1_0 (v0_0 : List Int) (v0_1 : Int) (v0_2 : Bool) (v0_3 : Int) (v0_4 : List (ByteArray × Int × Bool × Unit) × List Int × List (ByteArray × List Int × Bool × Unit) × Unit) : St := stq 43 [(1, AV.val (Ty.sl (Ty.int IntKind.i64)) v0_0), (2, AV.val (Ty.int IntKind.i64) v0_1), (3, AV.addr 3 []), (6, AV.val Ty.bool v0_2), (7, AV.val (Ty.int IntKind.i64) v0_3)] [(3, Root.mk (Ty.pair (Ty.sl (Ty.pair Ty.str (Ty.pair (Ty.int IntKind.i64) (Ty.pair Ty.bool Ty.unit)))) (Ty.pair (Ty.sl (Ty.int IntKind.i64)) (Ty.pair (Ty.sl (Ty.pair Ty.str (Ty.pair (Ty.sl (Ty.int IntKind.i64)) (Ty.pair Ty.bool Ty.unit)))) Ty.unit))) Mk.no v0_4 true)]
def spec_l19Places_Q1_1 (v1_0 : List Int) (v1_1 : Int) (v1_2 : Int) (v1_3 : List (ByteArray × Int × Bool × Unit) × List Int × List (ByteArray × List Int × Bool × Unit) × Unit) : St := stq 43 [(1, AV.val (Ty.sl (Ty.int IntKind.i64)) v1_0), (2, AV.val (Ty.int IntKind.i64) v1_1), (3, AV.addr 3 []), (7, AV.val (Ty.int IntKind.i64) v1_2)] [(3, Root.mk (Ty.pair (Ty.sl (Ty.pair Ty.str (Ty.pair (Ty.int IntKind.i64) (Ty.pair Ty.bool Ty.unit)))) (Ty.pair (Ty.sl (Ty.int IntKind.i64)) (Ty.pair (Ty.sl (Ty.pair Ty.str (Ty.pair (Ty.sl (Ty.int IntKind.i64)) (Ty.pair Ty.bool Ty.unit)))) Ty.unit))) Mk.no v1_3 true)]
theorem spec_l19Places_SB1 (D : Den ctx) (n : Nat) (m : Nat) (K : Ex → St → Option (Out ctx 74)) (x1_0 : List Int) (x1_1 : Int) (x1_2 : Int) (x1_3 : Int) (x1_4 : List (ByteArray × Int × Bool × Unit) × List Int × List (ByteArray × List Int × Bool × Unit) × Unit) :
  LQ funcTab D n 74 [.r, .l, .r, .l, .l, .r, .l, .l, .r, .r, .l] (m + 1) (spec_l19Places_Q1 x1_0 x1_1 x1_2 x1_3 x1_4) K = spec_l19Places_b1 D n (fun x1_0 x1_1 x1_2 x1_3 x1_4 => LQ funcTab D n 74 [.r, .l, .r, .l, .l, .r, .l, .l, .r, .r, .l] m (spec_l19Places_Q1 x1_0 x1_1 x1_2 x1_3 x1_4) K) (fun v0_0 v0_1 v0_2 v0_3 v0_4 => K (Ex.ret) (spec_l19Places_Q1_0 v0_0 v0_1 v0_2 v0_3 v0_4)) (fun v1_0 v1_1 v1_2 v1_3 => K (Ex.exit 2) (spec_l19Places_Q1_1 v1_0 v1_1 v1_2 v1_3)) x1_0 x1_1 x1_2 x1_3 x1_4 := by kernel_rfl
theorem spec_l19Places_EL1 (D : Den ctx) (n : Nat) (K : Ex → St → Option (Out ctx 74)) : ∀ (m : Nat) (x1_0 : List Int) (x1_1 : Int) (x1_2 : Int) (x1_3 : Int) (x1_4 : List (ByteArray × Int × Bool × Unit) × List Int × List (ByteArray × List Int × Bool × Unit) × Unit), LQ funcTab D n 74 [.r, .l, .r, .l, .l, .r, .l, .l, .r, .r, .l] m (spec_l19Places_Q1 x1_0 x1_1 x1_2 x1_3 x1_4) K = spec_l19Places_L1 D n (fun v0_0 v0_1 v0_2 v0_3 v0_4 => K (Ex.ret) (spec_l19Places_Q1_0 v0_0 v0_1 v0_2 v0_3 v0_4)) (fun v1_0 v1_1 v1_2 v1_3 => K (Ex.exit 2) (spec_l19Places_Q1_1 v1_0 v1_1 v1_2 v1_3)) m x1_0 x1_1 x1_2 x1_3 x1_4
  | 0, x1_0, x1_1, x1_2, x1_3, x1_4 => LQ_zero ..
  | m + 1, x1_0, x1_1, x1_2, x1_3, x1_4 => by
    have ih : (fun x1_0 x1_1 x1_2 x1_3 x1_4 => LQ funcTab D n 74 [.r, .l, .r, .l, .l, .r, .l, .l, .r, .r, .l] m (spec_l19Places_Q1 x1_0 x1_1 x1_2 x1_3 x1_4) K) = spec_l19Places_L1 D n (fun v0_0 v0_1 v0_2 v0_3 v0_4 => K (Ex.ret) (spec_l19Places_Q1_0 v0_0 v0_1 v0_2 v0_3 v0_4)) (fun v1_0 v1_1 v1_2 v1_3 => K (Ex.exit 2) (spec_l19Places_Q1_1 v1_0 v1_1 v1_2 v1_3)) m := by funext x1_0 x1_1 x1_2 x1_3 x1_4; exact spec_l19Places_EL1 D n K m x1_0 x1_1 x1_2 x1_3 x1_4
    rw [spec_l19Places_SB1]
    rw [ih]; rfl
theorem spec_l19Places_X1_0 (D : Den ctx) (n : Nat) (m : Nat) (K : Ex → St → Option (Out ctx 74)) (v0_0 : List Int) (v0_1 : Int) (v0_2 : Bool) (v0_3 : Int) (v0_4 : List (ByteArray × Int × Bool × Unit) × List Int × List (ByteArray × List Int × Bool × Unit) × Unit) :
  (CQ funcTab D n 74 [.r, .l, .r, .l, .l] [.r, .l, .l, .r, .r, .l] (LK funcTab D n 74 [.r, .l, .r, .l] m K)) (Ex.ret) (spec_l19Places_Q1_0 v0_0 v0_1 v0_2 v0_3 v0_4) = spec_l19Places_x1_0 D n (fun x0 x1 x2 x3 => LQ funcTab D n 74 [.r, .l, .r, .l] m (spec_l19Places_Q0 x0 x1 x2 x3) K) (fun v0_0 v0_1 v0_2 => K (Ex.ret) (spec_l19Places_Q0_0 v0_0 v0_1 v0_2)) (fun v1_0 v1_1 => K (Ex.exit 0) (spec_l19Places_Q0_1 v1_0 v1_1)) v0_0 v0_1 v0_2 v0_3 v0_4 := by kernel_rfl
theorem spec_l19Places_X1_1 (D : Den ctx) (n : Nat) (m : Nat) (K : Ex → St → Option (Out ctx 74)) (v1_0 : List Int) (v1_1 : Int) (v1_2 : Int) (v1_3 : List (ByteArray × Int × Bool × Unit) × List Int × List (ByteArray × List Int × Bool × Unit) × Unit) :
  (CQ funcTab D n 74 [.r, .l, .r, .l, .l] [.r, .l, .l, .r, .r, .l] (LK funcTab D n 74 [.r, .l, .r, .l] m K)) (Ex.exit 2) (spec_l19Places_Q1_1 v1_0 v1_1 v1_2 v1_3) = spec_l19Places_x1_1 D n (fun x0 x1 x2 x3 => LQ funcTab D n 74 [.r, .l, .r, .l] m (spec_l19Places_Q0 x0 x1 x2 x3) K) (fun v0_0 v0_1 v0_2 => K (Ex.ret) (spec_l19Places_Q0_0 v0_0 v0_1 v0_2)) (fun v1_0 v1_1 => K (Ex.exit 0) (spec_l19Places_Q0_1 v1_0 v1_1)) v1_0 v1_1 v1_2 v1_3 := by kernel_rfl
theorem spec_l19Places_ELP1 (D : Den ctx) (n : Nat) (m : Nat) (K : Ex → St → Option (Out ctx 74)) (x1_0 : List Int) (x1_1 : Int) (x1_2 : Int) (x1_3 : Int) (x1_4 : List (ByteArray × Int × Bool × Unit) × List Int × List (ByteArray × List Int × Bool × Unit) × Unit) :
  LQ funcTab D n 74 [.r, .l, .r, .l, .l, .r, .l, .l, .r, .r, .l] n (spec_l19Places_Q1 x1_0 x1_1 x1_2 x1_3 x1_4) (CQ funcTab D n 74 [.r, .l, .r, .l, .l] [.r, .l, .l, .r, .r, .l] (LK funcTab D n 74 [.r, .l, .r, .l] m K)) = spec_l19Places_LP1 D n (fun x0 x1 x2 x3 => LQ funcTab D n 74 [.r, .l, .r, .l] m (spec_l19Places_Q0 x0 x1 x2 x3) K) (fun v0_0 v0_1 v0_2 => K (Ex.ret) (spec_l19Places_Q0_0 v0_0 v0_1 v0_2)) (fun v1_0 v1_1 => K (Ex.exit 0) (spec_l19Places_Q0_1 v1_0 v1_1)) x1_0 x1_1 x1_2 x1_3 x1_4 := by
  rw [spec_l19Places_EL1]
  simp only [spec_l19Places_X1_0, spec_l19Places_X1_1]
  rfl
theorem spec_l19Places_SB0 (D : Den ctx) (n : Nat) (m : Nat) (K : Ex → St → Option (Out ctx 74)) (x0 : List Int) (x1 : Int) (x2 : Int) (x3 : List (ByteArray × Int × Bool × Unit) × List Int × List (ByteArray × List Int × Bool × Unit) × Unit) :
  LQ funcTab D n 74 [.r, .l, .r, .l] (m + 1) (spec_l19Places_Q0 x0 x1 x2 x3) K = spec_l19Places_b0 D n (fun x0 x1 x2 x3 => LQ funcTab D n 74 [.r, .l, .r, .l] m (spec_l19Places_Q0 x0 x1 x2 x3) K) (fun v0_0 v0_1 v0_2 => K (Ex.ret) (spec_l19Places_Q0_0 v0_0 v0_1 v0_2)) (fun v1_0 v1_1 => K (Ex.exit 0) (spec_l19Places_Q0_1 v1_0 v1_1)) (fun x1_0 x1_1 x1_2 x1_3 x1_4 => LQ funcTab D n 74 [.r, .l, .r, .l, .l, .r, .l, .l, .r, .r, .l] n (spec_l19Places_Q1 x1_0 x1_1 x1_2 x1_3 x1_4) (CQ funcTab D n 74 [.r, .l, .r, .l, .l] [.r, .l, .l, .r, .r, .l] (LK funcTab D n 74 [.r, .l, .r, .l] m K))) x0 x1 x2 x3 := by kernel_rfl
theorem spec_l19Places_EL0 (D : Den ctx) (n : Nat) (K : Ex → St → Option (Out ctx 74)) : ∀ (m : Nat) (x0 : List Int) (x1 : Int) (x2 : Int) (x3 : List (ByteArray × Int × Bool × Unit) × List Int × List (ByteArray × List Int × Bool × Unit) × Unit), LQ funcTab D n 74 [.r, .l, .r, .l] m (spec_l19Places_Q0 x0 x1 x2 x3) K = spec_l19Places_L0 D n (fun v0_0 v0_1 v0_2 => K (Ex.ret) (spec_l19Places_Q0_0 v0_0 v0_1 v0_2)) (fun v1_0 v1_1 => K (Ex.exit 0) (spec_l19Places_Q0_1 v1_0 v1_1)) m x0 x1 x2 x3
  | 0, x0, x1, x2, x3 => LQ_zero ..
  | m + 1, x0, x1, x2, x3 => by
    have ih : (fun x0 x1 x2 x3 => LQ funcTab D n 74 [.r, .l, .r, .l] m (spec_l19Places_Q0 x0 x1 x2 x3) K) = spec_l19Places_L0 D n (fun v0_0 v0_1 v0_2 => K (Ex.ret) (spec_l19Places_Q0_0 v0_0 v0_1 v0_2)) (fun v1_0 v1_1 => K (Ex.exit 0) (spec_l19Places_Q0_1 v1_0 v1_1)) m := by funext x0 x1 x2 x3; exact spec_l19Places_EL0 D n K m x0 x1 x2 x3
    rw [spec_l19Places_SB0]
    simp only [spec_l19Places_ELP1]
    rw [ih]; rfl
theorem spec_l19Places_X0_0 (D : Den ctx) (n : Nat) (v0_0 : List Int) (v0_1 : Int) (v0_2 : Bool) :
  (CQ funcTab D n 74 [] [.r, .l, .r, .l] (lastK funcTab 74)) (Ex.ret) (spec_l19Places_Q0_0 v0_0 v0_1 v0_2) = spec_l19Places_x0_0 D n v0_0 v0_1 v0_2 := by kernel_rfl
theorem spec_l19Places_X0_1 (D : Den ctx) (n : Nat) (v1_0 : List Int) (v1_1 : Int) :
  (CQ funcTab D n 74 [] [.r, .l, .r, .l] (lastK funcTab 74)) (Ex.exit 0) (spec_l19Places_Q0_1 v1_0 v1_1) = spec_l19Places_x0_1 D n v1_0 v1_1 := by kernel_rfl
theorem spec_l19Places_ELP0 (D : Den ctx) (n : Nat) (x0 : List Int) (x1 : Int) (x2 : Int) (x3 : List (ByteArray × Int × Bool × Unit) × List Int × List (ByteArray × List Int × Bool × Unit) × Unit) :
  LQ funcTab D n 74 [.r, .l, .r, .l] n (spec_l19Places_Q0 x0 x1 x2 x3) (CQ funcTab D n 74 [] [.r, .l, .r, .l] (lastK funcTab 74)) = spec_l19Places_LP0 D n x0 x1 x2 x3 := by
  rw [spec_l19Places_EL0]
  simp only [spec_l19Places_X0_0, spec_l19Places_X0_1]
  rfl
theorem E_spec_l19Places (D : Den ctx) (n : Nat) (a0 : List (ByteArray × Int × Bool × Unit) × List Int × List (ByteArray × List Int × Bool × Unit) × Unit) (a1 : List Int) (a2 : Int) : rfC funcTab D n 74 (a0, (a1, (a2, ()))) = F_spec_l19Places D n a0 a1 a2 := by
  have h : rfC funcTab D n 74 (a0, (a1, (a2, ()))) = spec_l19Places_e D n (fun x0 x1 x2 x3 => LQ funcTab D n 74 [.r, .l, .r, .l] n (spec_l19Places_Q0 x0 x1 x2 x3) (CQ funcTab D n 74 [] [.r, .l, .r, .l] (lastK funcTab 74))) a0 a1 a2 := by kernel_rfl
  rw [h]
  simp only [spec_l19Places_ELP0]
  rfl
end Go.G

namespace Go.G
set_option maxRecDepth 100000
set_option maxHeartbeats 0
open Go Go.V
noncomputable def spec_l19Indexes_b1 (D : Den ctx) (n : Nat) (go : Int → Int → List (ByteArray × Int × Bool × Unit) × List Int × List (ByteArray × List Int × Bool × Unit) × Unit → ByteArray × List Int × Bool × Unit → Option ((Bool × Unit) × Unit)) (K0 : Bool → Int → List (ByteArray × Int × Bool × Unit) × List Int × List (ByteArray × List Int × Bool × Unit) × Unit → Option ((Bool × Unit) × Unit)) (K1 : Int → List (ByteArray × Int × Bool × Unit) × List Int × List (ByteArray × List Int × Bool × Unit) × Unit → Option ((Bool × Unit) × Unit)) (x1_0 : Int) (x1_1 : Int) (x1_2 : List (ByteArray × Int × Bool × Unit) × List Int × List (ByteArray × List Int × Bool × Unit) × Unit) (x1_3 : ByteArray × List Int × Bool × Unit) : Option ((Bool × Unit) × Unit) := br (decide (x1_1 < x1_0)) (br (decide (0 ≤ x1_1) && decide (x1_1 < (↑(List.length (Prod.fst (Prod.snd (Prod.snd x1_2)))) : Int))) (br (List.beq (ByteArray.toList (Prod.fst (List.getD (Prod.fst (Prod.snd (Prod.snd x1_2))) (Int.toNat x1_1) (ByteArray.empty, [], false, ())))) (ByteArray.toList (Prod.fst x1_3))) (K0 false x1_0 x1_2) (go x1_0 (IntKind.wrap IntKind.i64 (x1_1 + 1)) x1_2 x1_3)) none) (K1 x1_0 x1_2)
noncomputable def spec_l19Indexes_L1 (D : Den ctx) (n : Nat) (K0 : Bool → Int → List (ByteArray × Int × Bool × Unit) × List Int × List (ByteArray × List Int × Bool × Unit) × Unit → Option ((Bool × Unit) × Unit)) (K1 : Int → List (ByteArray × Int × Bool × Unit) × List Int × List (ByteArray × List Int × Bool × Unit) × Unit → Option ((Bool × Unit) × Unit)) : Nat → (Int) → (Int) → (List (ByteArray × Int × Bool × Unit) × List Int × List (ByteArray × List Int × Bool × Unit) × Unit) → (ByteArray × List Int × Bool × Unit) → Option ((Bool × Unit) × Unit) | 0 => (fun x1_0 x1_1 x1_2 x1_3 => none) | m + 1 => (fun x1_0 x1_1 x1_2 x1_3 => spec_l19Indexes_b1 D n (spec_l19Indexes_L1 D n K0 K1 m) K0 K1 x1_0 x1_1 x1_2 x1_3)
noncomputable def spec_l19Indexes_x1_0 (D : Den ctx) (n : Nat) (go : Int → List (ByteArray × Int × Bool × Unit) × List Int × List (ByteArray × List Int × Bool × Unit) × Unit → Option ((Bool × Unit) × Unit)) (K0 : Bool → List (ByteArray × Int × Bool × Unit) × List Int × List (ByteArray × List Int × Bool × Unit) × Unit → Option ((Bool × Unit) × Unit)) (K1 : List (ByteArray × Int × Bool × Unit) × List Int × List (ByteArray × List Int × Bool × Unit) × Unit → Option ((Bool × Unit) × Unit)) (v0_0 : Bool) (v0_1 : Int) (v0_2 : List (ByteArray × Int × Bool × Unit) × List Int × List (ByteArray × List Int × Bool × Unit) × Unit) : Option ((Bool × Unit) × Unit) := K0 v0_0 v0_2
noncomputable def spec_l19Indexes_x1_1 (D : Den ctx) (n : Nat) (go : Int → List (ByteArray × Int × Bool × Unit) × List Int × List (ByteArray × List Int × Bool × Unit) × Unit → Option ((Bool × Unit) × Unit)) (K0 : Bool → List (ByteArray × Int × Bool × Unit) × List Int × List (ByteArray × List Int × Bool × Unit) × Unit → Option ((Bool × Unit) × Unit)) (K1 : List (ByteArray × Int × Bool × Unit) × List Int × List (ByteArray × List Int × Bool × Unit) × Unit → Option ((Bool × Unit) × Unit)) (v1_0 : Int) (v1_1 : List (ByteArray × Int × Bool × Unit) × List Int × List (ByteArray × List Int × Bool × Unit) × Unit) : Option ((Bool × Unit) × Unit) := go (IntKind.wrap IntKind.i64 (v1_0 + 1)) v1_1
noncomputable def spec_l19Indexes_LP1 (D : Den ctx) (n : Nat) (go : Int → List (ByteArray × Int × Bool × Unit) × List Int × List (ByteArray × List Int × Bool × Unit) × Unit → Option ((Bool × Unit) × Unit)) (K0 : Bool → List (ByteArray × Int × Bool × Unit) × List Int × List (ByteArray × List Int × Bool × Unit) × Unit → Option ((Bool × Unit) × Unit)) (K1 : List (ByteArray × Int × Bool × Unit) × List Int × List (ByteArray × List Int × Bool × Unit) × Unit → Option ((Bool × Unit) × Unit)) : (Int) → (Int) → (List (ByteArray × Int × Bool × Unit) × List Int × List (ByteArray × List Int × Bool × Unit) × Unit) → (ByteArray × List Int × Bool × Unit) → Option ((Bool × Unit) × Unit) := (fun x1_0 x1_1 x1_2 x1_3 => spec_l19Indexes_L1 D n (fun v0_0 v0_1 v0_2 => spec_l19Indexes_x1_0 D n go K0 K1 v0_0 v0_1 v0_2) (fun v1_0 v1_1 => spec_l19Indexes_x1_1 D n go K0 K1 v1_0 v1_1) n x1_0 x1_1 x1_2 x1_3)
noncomputable def spec_l19Indexes_b0 (D : Den ctx) (n : Nat) (go : Int → List (ByteArray × Int × Bool × Unit) × List Int × List (ByteArray × List Int × Bool × Unit) × Unit → Option ((Bool × Unit) × Unit)) (K0 : Bool → List (ByteArray × Int × Bool × Unit) × List Int × List (ByteArray × List Int × Bool × Unit) × Unit → Option ((Bool × Unit) × Unit)) (K1 : List (ByteArray × Int × Bool × Unit) × List Int × List (ByteArray × List Int × Bool × Unit) × Unit → Option ((Bool × Unit) × Unit)) (lp1 : Int → Int → List (ByteArray × Int × Bool × Unit) × List Int × List (ByteArray × List Int × Bool × Unit) × Unit → ByteArray × List Int × Bool × Unit → Option ((Bool × Unit) × Unit)) (x0 : Int) (x1 : List (ByteArray × Int × Bool × Unit) × List Int × List (ByteArray × List Int × Bool × Unit) × Unit) : Option ((Bool × Unit) × Unit) := br (decide (x0 < (↑(List.length (Prod.fst (Prod.snd (Prod.snd x1)))) : Int))) (br (decide (0 ≤ x0) && decide (x0 < (↑(List.length (Prod.fst (Prod.snd (Prod.snd x1)))) : Int))) (bindD (C_spec_ColNameOk D (Prod.fst (List.getD (Prod.fst (Prod.snd (Prod.snd x1))) (Int.toNat x0) (ByteArray.empty, [], false, ())))) fun b ↦ br (!Prod.fst (Prod.fst b)) (K0 false x1) (bindD (C_spec_l19Places D x1 (Prod.fst (Prod.snd (List.getD (Prod.fst (Prod.snd (Prod.snd x1))) (Int.toNat x0) (ByteArray.empty, [], false, ())))) 3) fun b ↦ br (!Prod.fst (Prod.fst b)) (K0 false x1) (lp1 x0 0 x1 (List.getD (Prod.fst (Prod.snd (Prod.snd x1))) (Int.toNat x0) (ByteArray.empty, [], false, ()))))) none) (K1 x1)
noncomputable def spec_l19Indexes_L0 (D : Den ctx) (n : Nat) (K0 : Bool → List (ByteArray × Int × Bool × Unit) × List Int × List (ByteArray × List Int × Bool × Unit) × Unit → Option ((Bool × Unit) × Unit)) (K1 : List (ByteArray × Int × Bool × Unit) × List Int × List (ByteArray × List Int × Bool × Unit) × Unit → Option ((Bool × Unit) × Unit)) : Nat → (Int) → (List (ByteArray × Int × Bool × Unit) × List Int × List (ByteArray × List Int × Bool × Unit) × Unit) → Option ((Bool × Unit) × Unit) | 0 => (fun x0 x1 => none) | m + 1 => (fun x0 x1 => spec_l19Indexes_b0 D n (spec_l19Indexes_L0 D n K0 K1 m) K0 K1 (spec_l19Indexes_LP1 D n (spec_l19Indexes_L0 D n K0 K1 m) K0 K1) x0 x1)
noncomputable def spec_l19Indexes_x0_0 (D : Den ctx) (n : Nat) (v0_0 : Bool) (v0_1 : List (ByteArray × Int × Bool × Unit) × List Int × List (ByteArray × List Int × Bool × Unit) × Unit) : Option ((Bool × Unit) × Unit) := some ((v0_0, ()), ())
noncomputable def spec_l19Indexes_x0_1 (D : Den ctx) (n : Nat) (v1_0 : List (ByteArray × Int × Bool × Unit) × List Int × List (ByteArray × List Int × Bool × Unit) × Unit) : Option ((Bool × Unit) × Unit) := some ((decide ((↑(List.length (Prod.fst (Prod.snd (Prod.snd v1_0)))) : Int) ≤ 3), ()), ())
noncomputable def spec_l19Indexes_LP0 (D : Den ctx) (n : Nat) : (Int) → (List (ByteArray × Int × Bool × Unit) × List Int × List (ByteArray × List Int × Bool × Unit) × Unit) → Option ((Bool × Unit) × Unit) := (fun x0 x1 => spec_l19Indexes_L0 D n (fun v0_0 v0_1 => spec_l19Indexes_x0_0 D n v0_0 v0_1) (fun v1_0 => spec_l19Indexes_x0_1 D n v1_0) n x0 x1)
noncomputable def spec_l19Indexes_e (D : Den ctx) (n : Nat) (lp0 : Int → List (ByteArray × Int × Bool × Unit) × List Int × List (ByteArray × List Int × Bool × Unit) × Unit → Option ((Bool × Unit) × Unit)) (a0 : List (ByteArray × Int × Bool × Unit) × List Int × List (ByteArray × List Int × Bool × Unit) × Unit) : Option ((Bool × Unit) × Unit) := lp0 0 a0
noncomputable def F_spec_l19Indexes (D : Den ctx) (n : Nat) (a0 : List (ByteArray × Int × Bool × Unit) × List Int × List (ByteArray × List Int × Bool × Unit) × Unit) : Option ((Bool × Unit) × Unit) := spec_l19Indexes_e D n (spec_l19Indexes_LP0 D n) a0
def spec_l19Indexes_Q0 (x0 : Int) (x1 : List (ByteArray × Int × Bool × Unit) × List Int × List (ByteArray × List Int × Bool × Unit) × Unit) : St := stq 47 [(1, AV.addr 1 []), (3, AV.val (Ty.int IntKind.i64) x0)] [(1, Root.mk (Ty.pair (Ty.sl (Ty.pair Ty.str (Ty.pair (Ty.int IntKind.i64) (Ty.pair Ty.bool Ty.unit)))) (Ty.pair (Ty.sl (Ty.int IntKind.i64)) (Ty.pair (Ty.sl (Ty.pair Ty.str (Ty.pair (Ty.sl (Ty.int IntKind.i64)) (Ty.pair Ty.bool Ty.unit)))) Ty.unit))) Mk.no x1 true)]
def spec_l19Indexes_Q0_0 (v0_0 : Bool) (v0_1 : List (ByteArray × Int × Bool × Unit) × List Int × List (ByteArray × List Int × Bool × Unit) × Unit) : St := stq 47 [(1, AV.addr 1 []), (2, AV.val Ty.bool v0_0)] [(1, Root.mk (Ty.pair (Ty.sl (Ty.pair Ty.str (Ty.pair (Ty.int IntKind.i64) (Ty.pair Ty.bool Ty.unit)))) (Ty.pair (Ty.sl (Ty.int IntKind.i64)) (Ty.pair (Ty.sl (Ty.pair Ty.str (Ty.pair (Ty.sl (Ty.int IntKind.i64)) (Ty.pair Ty.bool Ty.unit)))) Ty.unit))) Mk.no v0_1 true)]
def spec_l19Indexes_Q0_1 (v1_0 : List (ByteArray × Int × Bool × Unit) × List Int × List (ByteArray × List Int × Bool × Unit) × Unit) : St := stq 47 [(1, AV.addr 1 [])] [(1, Root.mk (Ty.pair (Ty.sl (Ty.pair Ty.str (Ty.pair (Ty.int IntKind.i64) (Ty.pair Ty.bool Ty.unit)))) (Ty.pair (Ty.sl (Ty.int IntKind.i64)) (Ty.pair (Ty.sl (Ty.pair Ty.str (Ty.pair (Ty.sl (Ty.int IntKind.i64)) (Ty.pair Ty.bool Ty.unit)))) Ty.unit))) Mk.no v1_0 true)]
def spec_l19Indexes_Q1 (x1_0 : Int) (x1_1 : Int) (x1_2 : List (ByteArray × Int × Bool × Unit) × List Int × List (ByteArray × List Int × Bool × Unit) × Unit) (x1_3 : ByteArray × List Int × Bool × Unit) : St := stq 47 [(1, AV.addr 1 []), (3, AV.val (Ty.int IntKind.i64) x1_0), (4, AV.addr 4 []), (5, AV.val (Ty.int IntKind.i64) x1_1)] [(1, Root.mk (Ty.pair (Ty.sl (Ty.pair Ty.str (Ty.pair (Ty.int IntKind.i64) (Ty.pair Ty.bool Ty.unit)))) (Ty.pair (Ty.sl (Ty.int IntKind.i64)) (Ty.pair (Ty.sl (Ty.pair Ty.str (Ty.pair (Ty.sl (Ty.int IntKind.i64)) (Ty.pair Ty.bool Ty.unit)))) Ty.unit))) Mk.no x1_2 true), (4, Root.mk (Ty.pair Ty.str (Ty.pair (Ty.sl (Ty.int IntKind.i64)) (Ty.pair Ty.bool Ty.unit))) Mk.no x1_3 true)]
def spec_l19Indexes_Q1_0 (v0_0 : Bool) (v0_1 : Int) (v0_2 : List (ByteArray × Int × Bool × Unit) × List Int × List (ByteArray × List Int × Bool × Unit) × Unit) : St := stq 47 [(1, AV.addr 1 []), (2, AV.val Ty.bool v0_0), (3, AV.val (Ty.int IntKind.i64) v0_1)] [(1, Root.mk (Ty.pair (Ty.sl (Ty.pair Ty.str (Ty.pair (Ty.int IntKind.i64) (Ty.pair Ty.bool Ty.unit)))) (Ty.pair (Ty.sl (Ty.int IntKind.i64)) (Ty.pair (Ty.sl (Ty.pair Ty.str (Ty.pair (Ty.sl (Ty.int IntKind.i64)) (Ty.pair Ty.bool Ty.unit)))) Ty.unit))) Mk.no v0_2 true)]
def spec_l19Indexes_Q1_1 (v1_0 : Int) (v1_1 : List (ByteArray × Int × Bool × Unit) × List Int × List (ByteArray × List Int × Bool × Unit) × Unit) : St := stq 47 [(1, AV.addr 1 []), (3, AV.val (Ty.int IntKind.i64) v1_0)] [(1, Root.mk (Ty.pair (Ty.sl (Ty.pair Ty.str (Ty.pair (Ty.int IntKind.i64) (Ty.pair Ty.bool Ty.unit)))) (Ty.pair (Ty.sl (Ty.int IntKind.i64)) (Ty.pair (Ty.sl (Ty.pair Ty.str (Ty.pair (Ty.sl (Ty.int IntKind.i64)) (Ty.pair Ty.bool Ty.unit)))) Ty.unit))) Mk.no v1_1 true)]
theorem spec_l19Indexes_SB1 (D : Den ctx) (n : Nat) (m : Nat) (K : Ex → St → Option (Out ctx 75)) (x1_0 : Int) (x1_1 : Int) (x1_2 : List (ByteArray × Int × Bool × Unit) × List Int × List (ByteArray × List Int × Bool × Unit) × Unit) (x1_3 : ByteArray × List Int × Bool × Unit) :
  LQ funcTab D n 75 [.r, .l, .r, .l, .l, .r, .l, .l, .r, .r, .r, .l] (m + 1) (spec_l19Indexes_Q1 x1_0 x1_1 x1_2 x1_3) K = spec_l19Indexes_b1 D n (fun x1_0 x1_1 x1_2 x1_3 => LQ funcTab D n 75 [.r, .l, .r, .l, .l, .r, .l, .l, .r, .r, .r, .l] m (spec_l19Indexes_Q1 x1_0 x1_1 x1_2 x1_3) K) (fun v0_0 v0_1 v0_2 => K (Ex.ret) (spec_l19Indexes_Q1_0 v0_0 v0_1 v0_2)) (fun v1_0 v1_1 => K (Ex.exit 2) (spec_l19Indexes_Q1_1 v1_0 v1_1)) x1_0 x1_1 x1_2 x1_3 := by kernel_rfl
theorem spec_l19Indexes_EL1 (D : Den ctx) (n : Nat) (K : Ex → St → Option (Out ctx 75)) : ∀ (m : Nat) (x1_0 : Int) (x1_1 : Int) (x1_2 : List (ByteArray × Int × Bool × Unit) × List Int × List (ByteArray × List Int × Bool × Unit) × Unit) (x1_3 : ByteArray × List Int × Bool × Unit), LQ funcTab D n 75 [.r, .l, .r, .l, .l, .r, .l, .l, .r, .r, .r, .l] m (spec_l19Indexes_Q1 x1_0 x1_1 x1_2 x1_3) K = spec_l19Indexes_L1 D n (fun v0_0 v0_1 v0_2 => K (Ex.ret) (spec_l19Indexes_Q1_0 v0_0 v0_1 v0_2)) (fun v1_0 v1_1 => K (Ex.exit 2) (spec_l19Indexes_Q1_1 v1_0 v1_1)) m x1_0 x1_1 x1_2 x1_3
  | 0, x1_0, x1_1, x1_2, x1_3 => LQ_zero ..
  | m + 1, x1_0, x1_1, x1_2, x1_3 => by
    have ih : (fun x1_0 x1_1 x1_2 x1_3 => LQ funcTab D n 75 [.r, .l, .r, .l, .l, .r, .l, .l, .r, .r, .r, .l] m (spec_l19Indexes_Q1 x1_0 x1_1 x1_2 x1_3) K) = spec_l19Indexes_L1 D n (fun v0_0 v0_1 v0_2 => K (Ex.ret) (spec_l19Indexes_Q1_0 v0_0 v0_1 v0_2)) (fun v1_0 v1_1 => K (Ex.exit 2) (spec_l19Indexes_Q1_1 v1_0 v1_1)) m := by funext x1_0 x1_1 x1_2 x1_3; exact spec_l19Indexes_EL1 D n K m x1_0 x1_1 x1_2 x1_3
    rw [spec_l19Indexes_SB1]
    rw [ih]; rfl
theorem spec_l19Indexes_X1_0 (D : Den ctx) (n : Nat) (m : Nat) (K : Ex → St → Option (Out ctx 75)) (v0_0 : Bool) (v0_1 : Int) (v0_2 : List (ByteArray × Int × Bool × Unit) × List Int × List (ByteArray × List Int × Bool × Unit) × Unit) :
  (CQ funcTab D n 75 [.r, .l, .r, .l, .l] [.r, .l, .l, .r, .r, .r, .l] (LK funcTab D n 75 [.r, .l, .r, .l] m K)) (Ex.ret) (spec_l19Indexes_Q1_0 v0_0 v0_1 v0_2) = spec_l19Indexes_x1_0 D n (fun x0 x1 => LQ funcTab D n 75 [.r, .l, .r, .l] m (spec_l19Indexes_Q0 x0 x1) K) (fun v0_0 v0_1 => K (Ex.ret) (spec_l19Indexes_Q0_0 v0_0 v0_1)) (fun v1_0 => K (Ex.exit 0) (spec_l19Indexes_Q0_1 v1_0)) v0_0 v0_1 v0_2 := by kernel_rfl
theorem spec_l19Indexes_X1_1 (D : Den ctx) (n : Nat) (m : Nat) (K : Ex → St → Option (Out ctx 75)) (v1_0 : Int) (v1_1 : List (ByteArray × Int × Bool × Unit) × List Int × List (ByteArray × List Int × Bool × Unit) × Unit) :
  (CQ funcTab D n 75 [.r, .l, .r, .l, .l] [.r, .l, .l, .r, .r, .r, .l] (LK funcTab D n 75 [.r, .l, .r, .l] m K)) (Ex.exit 2) (spec_l19Indexes_Q1_1 v1_0 v1_1) = spec_l19Indexes_x1_1 D n (fun x0 x1 => LQ funcTab D n 75 [.r, .l, .r, .l] m (spec_l19Indexes_Q0 x0 x1) K) (fun v0_0 v0_1 => K (Ex.ret) (spec_l19Indexes_Q0_0 v0_0 v0_1)) (fun v1_0 => K (Ex.exit 0) (spec_l19Indexes_Q0_1 v1_0)) v1_0 v1_1 := by kernel_rfl
theorem spec_l19Indexes_ELP1 (D : Den ctx) (n : Nat) (m : Nat) (K : Ex → St → Option (Out ctx 75)) (x1_0 : Int) (x1_1 : Int) (x1_2 : List (ByteArray × Int × Bool × Unit) × List Int × List (ByteArray × List Int × Bool × Unit) × Unit) (x1_3 : ByteArray × List Int × Bool × Unit) :
  LQ funcTab D n 75 [.r, .l, .r, .l, .l, .r, .l, .l, .r, .r, .r, .l] n (spec_l19Indexes_Q1 x1_0 x1_1 x1_2 x1_3) (CQ funcTab D n 75 [.r, .l, .r, .l, .l] [.r, .l, .l, .r, .r, .r, .l] (LK funcTab D n 75 [.r, .l, .r, .l] m K)) = spec_l19Indexes_LP1 D n (fun x0 x1 => LQ funcTab D n 75 [.r, .l, .r, .l] m (spec_l19Indexes_Q0 x0 x1) K) (fun v0_0 v0_1 => K (Ex.ret) (spec_l19Indexes_Q0_0 v0_0 v0_1)) (fun v1_0 => K (Ex.exit 0) (spec_l19Indexes_Q0_1 v1_0)) x1_0 x1_1 x1_2 x1_3 := by
  rw [spec_l19Indexes_EL1]
  simp only [spec_l19Indexes_X1_0, spec_l19Indexes_X1_1]
  rfl
theorem spec_l19Indexes_SB0 (D : Den ctx) (n : Nat) (m : Nat) (K : Ex → St → Option (Out ctx 75)) (x0 : Int) (x1 : List (ByteArray × Int × Bool × Unit) × List Int × List (ByteArray × List Int × Bool × Unit) × Unit) :
  LQ funcTab D n 75 [.r, .l, .r, .l] (m + 1) (spec_l19Indexes_Q0 x0 x1) K = spec_l19Indexes_b0 D n (fun x0 x1 => LQ funcTab D n 75 [.r, .l, .r, .l] m (spec_l19Indexes_Q0 x0 x1) K) (fun v0_0 v0_1 => K (Ex.ret) (spec_l19Indexes_Q0_0 v0_0 v0_1)) (fun v1_0 => K (Ex.exit 0) (spec_l19Indexes_Q0_1 v1_0)) (fun x1_0 x1_1 x1_2 x1_3 => LQ funcTab D n 75 [.r, .l, .r, .l, .l, .r, .l, .l, .r, .r, .r, .l] n (spec_l19Indexes_Q1 x1_0 x1_1 x1_2 x1_3) (CQ funcTab D n 75 [.r, .l, .r, .l, .l] [.r, .l, .l, .r, .r, .r, .l] (LK funcTab D n 75 [.r, .l, .r, .l] m K))) x0 x1 := by kernel_rfl
theorem spec_l19Indexes_EL0 (D : Den ctx) (n : Nat) (K : Ex → St → Option (Out ctx 75)) : ∀ (m : Nat) (x0 : Int) (x1 : List (ByteArray × Int × Bool × Unit) × List Int × List (ByteArray × List Int × Bool × Unit) × Unit), LQ funcTab D n 75 [.r, .l, .r, .l] m (spec_l19Indexes_Q0 x0 x1) K = spec_l19Indexes_L0 D n (fun v0_0 v0_1 => K (Ex.ret) (spec_l19Indexes_Q0_0 v0_0 v0_1)) (fun v1_0 => K (Ex.exit 0) (spec_l19Indexes_Q0_1 v1_0)) m x0 x1
  | 0, x0, x1 => LQ_zero ..
  | m + 1, x0, x1 => by
    have ih : (fun x0 x1 => LQ funcTab D n 75 [.r, .l, .r, .l] m (spec_l19Indexes_Q0 x0 x1) K) = spec_l19Indexes_L0 D n (fun v0_0 v0_1 => K (Ex.ret) (spec_l19Indexes_Q0_0 v0_0 v0_1)) (fun v1_0 => K (Ex.exit 0) (spec_l19Indexes_Q0_1 v1_0)) m := by funext x0 x1; exact spec_l19Indexes_EL0 D n K m x0 x1
    rw [spec_l19Indexes_SB0]
    simp only [spec_l19Indexes_ELP1]
    rw [ih]; rfl
theorem spec_l19Indexes_X0_0 (D : Den ctx) (n : Nat) (v0_0 : Bool) (v0_1 : List (ByteArray × Int × Bool × Unit) × List Int × List (ByteArray × List Int × Bool × Unit) × Unit) :
  (CQ funcTab D n 75 [] [.r, .l, .r, .l] (lastK funcTab 75)) (Ex.ret) (spec_l19Indexes_Q0_0 v0_0 v0_1) = spec_l19Indexes_x0_0 D n v0_0 v0_1 := by kernel_rfl
theorem spec_l19Indexes_X0_1 (D : Den ctx) (n : Nat) (v1_0 : List (ByteArray × Int × Bool × Unit) × List Int × List (ByteArray × List Int × Bool × Unit) × Unit) :
  (CQ funcTab D n 75 [] [.r, .l, .r, .l] (lastK funcTab 75)) (Ex.exit 0) (spec_l19Indexes_Q0_1 v1_0) = spec_l19Indexes_x0_1 D n v1_0 := by kernel_rfl
theorem spec_l19Indexes_ELP0 (D : Den ctx) (n : Nat) (x0 : Int) (x1 : List (ByteArray × Int × Bool × Unit) × List Int × List (ByteArray × List Int × Bool × Unit) × Unit) :
  LQ funcTab D n 75 [.r, .l, .r, .l] n (spec_l19Indexes_Q0 x0 x1) (CQ funcTab D n 75 [] [.r, .l, .r, .l] (lastK funcTab 75)) = spec_l19Indexes_LP0 D n x0 x1 := by
  rw [spec_l19Indexes_EL0]
  simp only [spec_l19Indexes_X0_0, spec_l19Indexes_X0_1]
  rfl
theorem E_spec_l19Indexes (D : Den ctx) (n : Nat) (a0 : List (ByteArray × Int × Bool × Unit) × List Int × List (ByteArray × List Int × Bool × Unit) × Unit) : rfC funcTab D n 75 (a0, ()) = F_spec_l19Indexes D n a0 := by
  have h : rfC funcTab D n 75 (a0, ()) = spec_l19Indexes_e D n (fun x0 x1 => LQ funcTab D n 75 [.r, .l, .r, .l] n (spec_l19Indexes_Q0 x0 x1) (CQ funcTab D n 75 [] [.r, .l, .r, .l] (lastK funcTab 75))) a0 := by kernel_rfl
  rw [h]
  simp only [spec_l19Indexes_ELP0]
  rfl
end Go.G

namespace Go.G
set_option maxRecDepth 100000
set_option maxHeartbeats 0
open Go Go.V
noncomputable def laws_toColS_b0 (D : Den ctx) (n : Nat) (go : List (ByteArray × Int × Bool × Unit) → Int → List (ByteArray × Int × Bool × Unit) → Option ((List (ByteArray × Int × Bool × Unit) × Unit) × Unit)) (K0 : List (ByteArray × Int × Bool × Unit) → Option ((List (ByteArray × Int × Bool × Unit) × Unit) × Unit)) (x0 : List (ByteArray × Int × Bool × Unit)) (x1 : Int) (x2 : List (ByteArray × Int × Bool × Unit)) : Option ((List (ByteArray × Int × Bool × Unit) × Unit) × Unit) := br (decide (x1 < (↑(List.length x0) : Int))) (br (decide (0 ≤ x1) && decide (x1 < (↑(List.length x0) : Int))) (bindD (C_laws_toCol D (List.getD x0 (Int.toNat x1) (ByteArray.empty, 0, false, ()))) fun b ↦ br (decide (0 ≤ x1) && decide (x1 < (↑(List.length x2) : Int))) (go x0 (IntKind.wrap IntKind.i64 (x1 + 1)) (List.set x2 (Int.toNat x1) (Prod.fst (Prod.fst b)))) none) none) (K0 x2)
noncomputable def laws_toColS_L0 (D : Den ctx) (n : Nat) (K0 : List (ByteArray × Int × Bool × Unit) → Option ((List (ByteArray × Int × Bool × Unit) × Unit) × Unit)) : Nat → (List (ByteArray × Int × Bool × Unit)) → (Int) → (List (ByteArray × Int × Bool × Unit)) → Option ((List (ByteArray × Int × Bool × Unit) × Unit) × Unit) | 0 => (fun x0 x1 x2 => none) | m + 1 => (fun x0 x1 x2 => laws_toColS_b0 D n (laws_toColS_L0 D n K0 m) K0 x0 x1 x2)
noncomputable def laws_toColS_x0_0 (D : Den ctx) (n : Nat) (v0_0 : List (ByteArray × Int × Bool × Unit)) : Option ((List (ByteArray × Int × Bool × Unit) × Unit) × Unit) := some ((v0_0, ()), ())
noncomputable def laws_toColS_LP0 (D : Den ctx) (n : Nat) : (List (ByteArray × Int × Bool × Unit)) → (Int) → (List (ByteArray × Int × Bool × Unit)) → Option ((List (ByteArray × Int × Bool × Unit) × Unit) × Unit) := (fun x0 x1 x2 => laws_toColS_L0 D n (fun v0_0 => laws_toColS_x0_0 D n v0_0) n x0 x1 x2)
noncomputable def laws_toColS_e (D : Den ctx) (n : Nat) (lp0 : List (ByteArray × Int × Bool × Unit) → Int → List (ByteArray × Int × Bool × Unit) → Option ((List (ByteArray × Int × Bool × Unit) × Unit) × Unit)) (a0 : List (ByteArray × Int × Bool × Unit)) : Option ((List (ByteArray × Int × Bool × Unit) × Unit) × Unit) := br (decide (0 ≤ (↑(List.length a0) : Int)) && decide ((↑(List.length a0) : Int) ≤ (↑(List.length a0) : Int)) && decide ((↑(List.length a0) : Int) ≤ (↑bound : Int))) (lp0 a0 0 (List.replicate (Int.toNat (↑(List.length a0) : Int)) (ByteArray.empty, 0, false, ()))) none
noncomputable def F_laws_toColS (D : Den ctx) (n : Nat) (a0 : List (ByteArray × Int × Bool × Unit)) : Option ((List (ByteArray × Int × Bool × Unit) × Unit) × Unit) := laws_toColS_e D n (laws_toColS_LP0 D n) a0
def laws_toColS_Q0 (x0 : List (ByteArray × Int × Bool × Unit)) (x1 : Int) (x2 : List (ByteArray × Int × Bool × Unit)) : St := stq 23 [(0, AV.val (Ty.sl (Ty.pair Ty.str (Ty.pair (Ty.int IntKind.i64) (Ty.pair Ty.bool Ty.unit)))) x0), (3, AV.brw 3 [] 0), (4, AV.val (Ty.int IntKind.i64) x1)] [(3, Root.mk (Ty.sl (Ty.pair Ty.str (Ty.pair (Ty.int IntKind.i64) (Ty.pair Ty.bool Ty.unit)))) (Mk.own 0 (Mk.pr Mk.no (Mk.pr Mk.no (Mk.pr Mk.no Mk.no)))) x2 false)]
def laws_toColS_Q0_0 (v0_0 : List (ByteArray × Int × Bool × Unit)) : St := stq 23 [(3, AV.brw 3 [] 0)] [(3, Root.mk (Ty.sl (Ty.pair Ty.str (Ty.pair (Ty.int IntKind.i64) (Ty.pair Ty.bool Ty.unit)))) (Mk.own 0 (Mk.pr Mk.no (Mk.pr Mk.no (Mk.pr Mk.no Mk.no)))) v0_0 false)]
theorem laws_toColS_SB0 (D : Den ctx) (n : Nat) (m : Nat) (K : Ex → St → Option (Out ctx 76)) (x0 : List (ByteArray × Int × Bool × Unit)) (x1 : Int) (x2 : List (ByteArray × Int × Bool × Unit)) :
  LQ funcTab D n 76 [.r, .r, .l, .r, .l] (m + 1) (laws_toColS_Q0 x0 x1 x2) K = laws_toColS_b0 D n (fun x0 x1 x2 => LQ funcTab D n 76 [.r, .r, .l, .r, .l] m (laws_toColS_Q0 x0 x1 x2) K) (fun v0_0 => K (Ex.exit 0) (laws_toColS_Q0_0 v0_0)) x0 x1 x2 := by kernel_rfl
theorem laws_toColS_EL0 (D : Den ctx) (n : Nat) (K : Ex → St → Option (Out ctx 76)) : ∀ (m : Nat) (x0 : List (ByteArray × Int × Bool × Unit)) (x1 : Int) (x2 : List (ByteArray × Int × Bool × Unit)), LQ funcTab D n 76 [.r, .r, .l, .r, .l] m (laws_toColS_Q0 x0 x1 x2) K = laws_toColS_L0 D n (fun v0_0 => K (Ex.exit 0) (laws_toColS_Q0_0 v0_0)) m x0 x1 x2
  | 0, x0, x1, x2 => LQ_zero ..
  | m + 1, x0, x1, x2 => by
    have ih : (fun x0 x1 x2 => LQ funcTab D n 76 [.r, .r, .l, .r, .l] m (laws_toColS_Q0 x0 x1 x2) K) = laws_toColS_L0 D n (fun v0_0 => K (Ex.exit 0) (laws_toColS_Q0_0 v0_0)) m := by funext x0 x1 x2; exact laws_toColS_EL0 D n K m x0 x1 x2
    rw [laws_toColS_SB0]
    rw [ih]; rfl
theorem laws_toColS_X0_0 (D : Den ctx) (n : Nat) (v0_0 : List (ByteArray × Int × Bool × Unit)) :
  (CQ funcTab D n 76 [] [.r, .r, .l, .r, .l] (lastK funcTab 76)) (Ex.exit 0) (laws_toColS_Q0_0 v0_0) = laws_toColS_x0_0 D n v0_0 := by kernel_rfl
theorem laws_toColS_ELP0 (D : Den ctx) (n : Nat) (x0 : List (ByteArray × Int × Bool × Unit)) (x1 : Int) (x2 : List (ByteArray × Int × Bool × Unit)) :
  LQ funcTab D n 76 [.r, .r, .l, .r, .l] n (laws_toColS_Q0 x0 x1 x2) (CQ funcTab D n 76 [] [.r, .r, .l, .r, .l] (lastK funcTab 76)) = laws_toColS_LP0 D n x0 x1 x2 := by
  rw [laws_toColS_EL0]
  simp only [laws_toColS_X0_0]
  rfl
theorem E_laws_toColS (D : Den ctx) (n : Nat) (a0 : List (ByteArray × Int × Bool × Unit)) : rfC funcTab D n 76 (a0, ()) = F_laws_toColS D n a0 := by
  have h : rfC funcTab D n 76 (a0, ()) = laws_toColS_e D n (fun x0 x1 x2 => LQ funcTab D n 76 [.r, .r, .l, .r, .l] n (laws_toColS_Q0 x0 x1 x2) (CQ funcTab D n 76 [] [.r, .r, .l, .r, .l] (lastK funcTab 76))) a0 := by kernel_rfl
  rw [h]
  simp only [laws_toColS_ELP0]
  rfl
end Go.G

namespace Go.G
set_option maxRecDepth 100000
set_option maxHeartbeats 0
open Go Go.V
noncomputable def laws_toIntS_b0 (D : Den ctx) (n : Nat) (go : List Int → Int → List Int → Option ((List Int × Unit) × Unit)) (K0 : List Int → Option ((List Int × Unit) × Unit)) (x0 : List Int) (x1 : Int) (x2 : List Int) : Option ((List Int × Unit) × Unit) := br (decide (x1 < (↑(List.length x0) : Int))) (br (decide (0 ≤ x1) && decide (x1 < (↑(List.length x0) : Int))) (br (decide (0 ≤ x1) && decide (x1 < (↑(List.length x2) : Int))) (go x0 (IntKind.wrap IntKind.i64 (x1 + 1)) (List.set x2 (Int.toNat x1) (List.getD x0 (Int.toNat x1) 0))) none) none) (K0 x2)
noncomputable def laws_toIntS_L0 (D : Den ctx) (n : Nat) (K0 : List Int → Option ((List Int × Unit) × Unit)) : Nat → (List Int) → (Int) → (List Int) → Option ((List Int × Unit) × Unit) | 0 => (fun x0 x1 x2 => none) | m + 1 => (fun x0 x1 x2 => laws_toIntS_b0 D n (laws_toIntS_L0 D n K0 m) K0 x0 x1 x2)
noncomputable def laws_toIntS_x0_0 (D : Den ctx) (n : Nat) (v0_0 : List Int) : Option ((List Int × Unit) × Unit) := some ((v0_0, ()), ())
noncomputable def laws_toIntS_LP0 (D : Den ctx) (n : Nat) : (List Int) → (Int) → (List Int) → Option ((List Int × Unit) × Unit) := (fun x0 x1 x2 => laws_toIntS_L0 D n (fun v0_0 => laws_toIntS_x0_0 D n v0_0) n x0 x1 x2)
noncomputable def laws_toIntS_e (D : Den ctx) (n : Nat) (lp0 : List Int → Int → List Int → Option ((List Int × Unit) × Unit)) (a0 : List Int) : Option ((List Int × Unit) × Unit) := br (decide (0 ≤ (↑(List.length a0) : Int)) && decide ((↑(List.length a0) : Int) ≤ (↑(List.length a0) : Int)) && decide ((↑(List.length a0) : Int) ≤ (↑bound : Int))) (lp0 a0 0 (List.replicate (Int.toNat (↑(List.length a0) : Int)) 0)) none
noncomputable def F_laws_toIntS (D : Den ctx) (n : Nat) (a0 : List Int) : Option ((List Int × Unit) × Unit) := laws_toIntS_e D n (laws_toIntS_LP0 D n) a0
def laws_toIntS_Q0 (x0 : List Int) (x1 : Int) (x2 : List Int) : St := stq 22 [(0, AV.val (Ty.sl (Ty.int IntKind.i64)) x0), (3, AV.brw 3 [] 0), (4, AV.val (Ty.int IntKind.i64) x1)] [(3, Root.mk (Ty.sl (Ty.int IntKind.i64)) (Mk.own 0 Mk.no) x2 false)]
def laws_toIntS_Q0_0 (v0_0 : List Int) : St := stq 22 [(3, AV.brw 3 [] 0)] [(3, Root.mk (Ty.sl (Ty.int IntKind.i64)) (Mk.own 0 Mk.no) v0_0 false)]
theorem laws_toIntS_SB0 (D : Den ctx) (n : Nat) (m : Nat) (K : Ex → St → Option (Out ctx 77)) (x0 : List Int) (x1 : Int) (x2 : List Int) :
  LQ funcTab D n 77 [.r, .r, .l, .r, .l] (m + 1) (laws_toIntS_Q0 x0 x1 x2) K = laws_toIntS_b0 D n (fun x0 x1 x2 => LQ funcTab D n 77 [.r, .r, .l, .r, .l] m (laws_toIntS_Q0 x0 x1 x2) K) (fun v0_0 => K (Ex.exit 0) (laws_toIntS_Q0_0 v0_0)) x0 x1 x2 := by kernel_rfl
theorem laws_toIntS_EL0 (D : Den ctx) (n : Nat) (K : Ex → St → Option (Out ctx 77)) : ∀ (m : Nat) (x0 : List Int) (x1 : Int) (x2 : List Int), LQ funcTab D n 77 [.r, .r, .l, .r, .l] m (laws_toIntS_Q0 x0 x1 x2) K = laws_toIntS_L0 D n (fun v0_0 => K (Ex.exit 0) (laws_toIntS_Q0_0 v0_0)) m x0 x1 x2
  | 0, x0, x1, x2 => LQ_zero ..
  | m + 1, x0, x1, x2 => by
    have ih : (fun x0 x1 x2 => LQ funcTab D n 77 [.r, .r, .l, .r, .l] m (laws_toIntS_Q0 x0 x1 x2) K) = laws_toIntS_L0 D n (fun v0_0 => K (Ex.exit 0) (laws_toIntS_Q0_0 v0_0)) m := by funext x0 x1 x2; exact laws_toIntS_EL0 D n K m x0 x1 x2
    rw [laws_toIntS_SB0]
    rw [ih]; rfl
theorem laws_toIntS_X0_0 (D : Den ctx) (n : Nat) (v0_0 : List Int) :
  (CQ funcTab D n 77 [] [.r, .r, .l, .r, .l] (lastK funcTab 77)) (Ex.exit 0) (laws_toIntS_Q0_0 v0_0) = laws_toIntS_x0_0 D n v0_0 := by kernel_rfl
theorem laws_toIntS_ELP0 (D : Den ctx) (n : Nat) (x0 : List Int) (x1 : Int) (x2 : List Int) :
  LQ funcTab D n 77 [.r, .r, .l, .r, .l] n (laws_toIntS_Q0 x0 x1 x2) (CQ funcTab D n 77 [] [.r, .r, .l, .r, .l] (lastK funcTab 77)) = laws_toIntS_LP0 D n x0 x1 x2 := by
  rw [laws_toIntS_EL0]
  simp only [laws_toIntS_X0_0]
  rfl
theorem E_laws_toIntS (D : Den ctx) (n : Nat) (a0 : List Int) : rfC funcTab D n 77 (a0, ()) = F_laws_toIntS D n a0 := by
  have h : rfC funcTab D n 77 (a0, ()) = laws_toIntS_e D n (fun x0 x1 x2 => LQ funcTab D n 77 [.r, .r, .l, .r, .l] n (laws_toIntS_Q0 x0 x1 x2) (CQ funcTab D n 77 [] [.r, .r, .l, .r, .l] (lastK funcTab 77))) a0 := by kernel_rfl
  rw [h]
  simp only [laws_toIntS_ELP0]
  rfl
end Go.G

namespace Go.G
set_option maxRecDepth 100000
set_option maxHeartbeats 0
open Go Go.V
noncomputable def laws_toIndexS_b0 (D : Den ctx) (n : Nat) (go : List (ByteArray × List Int × Bool × Unit) → Int → List (ByteArray × List Int × Bool × Unit) → Option ((List (ByteArray × List Int × Bool × Unit) × Unit) × Unit)) (K0 : List (ByteArray × List Int × Bool × Unit) → Option ((List (ByteArray × List Int × Bool × Unit) × Unit) × Unit)) (x0 : List (ByteArray × List Int × Bool × Unit)) (x1 : Int) (x2 : List (ByteArray × List Int × Bool × Unit)) : Option ((List (ByteArray × List Int × Bool × Unit) × Unit) × Unit) := br (decide (x1 < (↑(List.length x0) : Int))) (br (decide (0 ≤ x1) && decide (x1 < (↑(List.length x0) : Int))) (bindD (C_laws_toIndex D (List.getD x0 (Int.toNat x1) (ByteArray.empty, [], false, ()))) fun b ↦ br (decide (0 ≤ x1) && decide (x1 < (↑(List.length x2) : Int))) (go x0 (IntKind.wrap IntKind.i64 (x1 + 1)) (List.set x2 (Int.toNat x1) (Prod.fst (Prod.fst (Prod.fst b)), Prod.fst (Prod.snd (Prod.fst (Prod.fst b))), Prod.snd (Prod.snd (Prod.fst (Prod.fst b)))))) none) none) (K0 x2)
noncomputable def laws_toIndexS_L0 (D : Den ctx) (n : Nat) (K0 : List (ByteArray × List Int × Bool × Unit) → Option ((List (ByteArray × List Int × Bool × Unit) × Unit) × Unit)) : Nat → (List (ByteArray × List Int × Bool × Unit)) → (Int) → (List (ByteArray × List Int × Bool × Unit)) → Option ((List (ByteArray × List Int × Bool × Unit) × Unit) × Unit) | 0 => (fun x0 x1 x2 => none) | m + 1 => (fun x0 x1 x2 => laws_toIndexS_b0 D n (laws_toIndexS_L0 D n K0 m) K0 x0 x1 x2)
noncomputable def laws_toIndexS_x0_0 (D : Den ctx) (n : Nat) (v0_0 : List (ByteArray × List Int × Bool × Unit)) : Option ((List (ByteArray × List Int × Bool × Unit) × Unit) × Unit) := some ((v0_0, ()), ())
noncomputable def laws_toIndexS_LP0 (D : Den ctx) (n : Nat) : (List (ByteArray × List Int × Bool × Unit)) → (Int) → (List (ByteArray × List Int × Bool × Unit)) → Option ((List (ByteArray × List Int × Bool × Unit) × Unit) × Unit) := (fun x0 x1 x2 => laws_toIndexS_L0 D n (fun v0_0 => laws_toIndexS_x0_0 D n v0_0) n x0 x1 x2)
noncomputable def laws_toIndexS_e (D : Den ctx) (n : Nat) (lp0 : List (ByteArray × List Int × Bool × Unit) → Int → List (ByteArray × List Int × Bool × Unit) → Option ((List (ByteArray × List Int × Bool × Unit) × Unit) × Unit)) (a0 : List (ByteArray × List Int × Bool × Unit)) : Option ((List (ByteArray × List Int × Bool × Unit) × Unit) × Unit) := br (decide (0 ≤ (↑(List.length a0) : Int)) && decide ((↑(List.length a0) : Int) ≤ (↑(List.length a0) : Int)) && decide ((↑(List.length a0) : Int) ≤ (↑bound : Int))) (lp0 a0 0 (List.replicate (Int.toNat (↑(List.length a0) : Int)) (ByteArray.empty, [], false, ()))) none
noncomputable def F_laws_toIndexS (D : Den ctx) (n : Nat) (a0 : List (ByteArray × List Int × Bool × Unit)) : Option ((List (ByteArray × List Int × Bool × Unit) × Unit) × Unit) := laws_toIndexS_e D n (laws_toIndexS_LP0 D n) a0
def laws_toIndexS_Q0 (x0 : List (ByteArray × List Int × Bool × Unit)) (x1 : Int) (x2 : List (ByteArray × List Int × Bool × Unit)) : St := stq 23 [(0, AV.val (Ty.sl (Ty.pair Ty.str (Ty.pair (Ty.sl (Ty.int IntKind.i64)) (Ty.pair Ty.bool Ty.unit)))) x0), (3, AV.brw 3 [] 0), (4, AV.val (Ty.int IntKind.i64) x1)] [(3, Root.mk (Ty.sl (Ty.pair Ty.str (Ty.pair (Ty.sl (Ty.int IntKind.i64)) (Ty.pair Ty.bool Ty.unit)))) (Mk.own 0 (Mk.pr Mk.no (Mk.pr (Mk.own 0 Mk.no) (Mk.pr Mk.no Mk.no)))) x2 false)]
def laws_toIndexS_Q0_0 (v0_0 : List (ByteArray × List Int × Bool × Unit)) : St := stq 23 [(3, AV.brw 3 [] 0)] [(3, Root.mk (Ty.sl (Ty.pair Ty.str (Ty.pair (Ty.sl (Ty.int IntKind.i64)) (Ty.pair Ty.bool Ty.unit)))) (Mk.own 0 (Mk.pr Mk.no (Mk.pr (Mk.own 0 Mk.no) (Mk.pr Mk.no Mk.no)))) v0_0 false)]
theorem laws_toIndexS_SB0 (D : Den ctx) (n : Nat) (m : Nat) (K : Ex → St → Option (Out ctx 78)) (x0 : List (ByteArray × List Int × Bool × Unit)) (x1 : Int) (x2 : List (ByteArray × List Int × Bool × Unit)) :
  LQ funcTab D n 78 [.r, .r, .l, .r, .l] (m + 1) (laws_toIndexS_Q0 x0 x1 x2) K = laws_toIndexS_b0 D n (fun x0 x1 x2 => LQ funcTab D n 78 [.r, .r, .l, .r, .l] m (laws_toIndexS_Q0 x0 x1 x2) K) (fun v0_0 => K (Ex.exit 0) (laws_toIndexS_Q0_0 v0_0)) x0 x1 x2 := by kernel_rfl
theorem laws_toIndexS_EL0 (D : Den ctx) (n : Nat) (K : Ex → St → Option (Out ctx 78)) : ∀ (m : Nat) (x0 : List (ByteArray × List Int × Bool × Unit)) (x1 : Int) (x2 : List (ByteArray × List Int × Bool × Unit)), LQ funcTab D n 78 [.r, .r, .l, .r, .l] m (laws_toIndexS_Q0 x0 x1 x2) K = laws_toIndexS_L0 D n (fun v0_0 => K (Ex.exit 0) (laws_toIndexS_Q0_0 v0_0)) m x0 x1 x2
  | 0, x0, x1, x2 => LQ_zero ..
  | m + 1, x0, x1, x2 => by
    have ih : (fun x0 x1 x2 => LQ funcTab D n 78 [.r, .r, .l, .r, .l] m (laws_toIndexS_Q0 x0 x1 x2) K) = laws_toIndexS_L0 D n (fun v0_0 => K (Ex.exit 0) (laws_toIndexS_Q0_0 v0_0)) m := by funext x0 x1 x2; exact laws_toIndexS_EL0 D n K m x0 x1 x2
    rw [laws_toIndexS_SB0]
    rw [ih]; rfl
theorem laws_toIndexS_X0_0 (D : Den ctx) (n : Nat) (v0_0 : List (ByteArray × List Int × Bool × Unit)) :
  (CQ funcTab D n 78 [] [.r, .r, .l, .r, .l] (lastK funcTab 78)) (Ex.exit 0) (laws_toIndexS_Q0_0 v0_0) = laws_toIndexS_x0_0 D n v0_0 := by kernel_rfl
theorem laws_toIndexS_ELP0 (D : Den ctx) (n : Nat) (x0 : List (ByteArray × List Int × Bool × Unit)) (x1 : Int) (x2 : List (ByteArray × List Int × Bool × Unit)) :
  LQ funcTab D n 78 [.r, .r, .l, .r, .l] n (laws_toIndexS_Q0 x0 x1 x2) (CQ funcTab D n 78 [] [.r, .r, .l, .r, .l] (lastK funcTab 78)) = laws_toIndexS_LP0 D n x0 x1 x2 := by
  rw [laws_toIndexS_EL0]
  simp only [laws_toIndexS_X0_0]
  rfl
theorem E_laws_toIndexS (D : Den ctx) (n : Nat) (a0 : List (ByteArray × List Int × Bool × Unit)) : rfC funcTab D n 78 (a0, ()) = F_laws_toIndexS D n a0 := by
  have h : rfC funcTab D n 78 (a0, ()) = laws_toIndexS_e D n (fun x0 x1 x2 => LQ funcTab D n 78 [.r, .r, .l, .r, .l] n (laws_toIndexS_Q0 x0 x1 x2) (CQ funcTab D n 78 [] [.r, .r, .l, .r, .l] (lastK funcTab 78))) a0 := by kernel_rfl
  rw [h]
  simp only [laws_toIndexS_ELP0]
  rfl
end Go.G

namespace Go.G
set_option maxRecDepth 100000
set_option maxHeartbeats 0
open Go Go.V
noncomputable def impl_from_e (D : Den ctx) (n : Nat) (a0 : Int) (a1 : Int) (a2 : Int) : Option ((Bool × Unit) × Unit) := some ((bif decide (a0 ≥ a1) then decide (a0 ≤ a2) else false, ()), ())
noncomputable def F_impl_from (D : Den ctx) (n : Nat) (a0 : Int) (a1 : Int) (a2 : Int) : Option ((Bool × Unit) × Unit) := impl_from_e D n a0 a1 a2
theorem E_impl_from (D : Den ctx) (n : Nat) (a0 : Int) (a1 : Int) (a2 : Int) : rfC funcTab D n 79 (a0, (a1, (a2, ()))) = F_impl_from D n a0 a1 a2 := by kernel_rfl
end Go.G

namespace Go.G
set_option maxRecDepth 100000
set_option maxHeartbeats 0
open Go Go.V
noncomputable def impl_placesOk_b0 (D : Den ctx) (n : Nat) (go : List Int → Int → List Int → Int → Int → List (ByteArray × Int × Bool × Unit) × List Int × List (ByteArray × List Int × Bool × Unit) × Unit → Option ((Bool × Unit) × Unit)) (K0 : List Int → Int → Bool → Option ((Bool × Unit) × Unit)) (K1 : List Int → Int → Option ((Bool × Unit) × Unit)) (x0 : List Int) (x1 : Int) (x2 : List Int) (x3 : Int) (x4 : Int) (x5 : List (ByteArray × Int × Bool × Unit) × List Int × List (ByteArray × List Int × Bool × Unit) × Unit) : Option ((Bool × Unit) × Unit) := br (decide (x4 < x3)) (br (decide (0 ≤ x4) && decide (x4 < (↑(List.length x2) : Int))) (bindD (C_impl_from D (List.getD x2 (Int.toNat x4) 0) 0 (IntKind.wrap IntKind.i64 ((↑(List.length (Prod.fst x5)) : Int) - 1))) fun b ↦ br (!Prod.fst (Prod.fst b)) (K0 x0 x1 false) (br (decide (0 ≤ 0) && decide (0 ≤ x4) && decide (x4 ≤ (↑(List.length x0) : Int))) (bindD (C_slices_Contains_int_int D (List.drop (Int.toNat 0) (List.take (Int.toNat x4) x0)) (List.getD x2 (Int.toNat x4) 0)) fun b ↦ br (Prod.fst (Prod.fst b)) (K0 x0 x1 false) (go x0 x1 x2 x3 (IntKind.wrap IntKind.i64 (x4 + 1)) x5)) none)) none) (K1 x0 x1)
noncomputable def impl_placesOk_L0 (D : Den ctx) (n : Nat) (K0 : List Int → Int → Bool → Option ((Bool × Unit) × Unit)) (K1 : List Int → Int → Option ((Bool × Unit) × Unit)) : Nat → (List Int) → (Int) → (List Int) → (Int) → (Int) → (List (ByteArray × Int × Bool × Unit) × List Int × List (ByteArray × List Int × Bool × Unit) × Unit) → Option ((Bool × Unit) × Unit) | 0 => (fun x0 x1 x2 x3 x4 x5 => none) | m + 1 => (fun x0 x1 x2 x3 x4 x5 => impl_placesOk_b0 D n (impl_placesOk_L0 D n K0 K1 m) K0 K1 x0 x1 x2 x3 x4 x5)
noncomputable def impl_placesOk_x0_0 (D : Den ctx) (n : Nat) (v0_0 : List Int) (v0_1 : Int) (v0_2 : Bool) : Option ((Bool × Unit) × Unit) := some ((v0_2, ()), ())
noncomputable def impl_placesOk_x0_1 (D : Den ctx) (n : Nat) (v1_0 : List Int) (v1_1 : Int) : Option ((Bool × Unit) × Unit) := bindD (C_impl_from D (↑(List.length v1_0) : Int) 1 v1_1) fun b ↦ some ((Prod.fst (Prod.fst b), ()), ())
noncomputable def impl_placesOk_LP0 (D : Den ctx) (n : Nat) : (List Int) → (Int) → (List Int) → (Int) → (Int) → (List (ByteArray × Int × Bool × Unit) × List Int × List (ByteArray × List Int × Bool × Unit) × Unit) → Option ((Bool × Unit) × Unit) := (fun x0 x1 x2 x3 x4 x5 => impl_placesOk_L0 D n (fun v0_0 v0_1 v0_2 => impl_placesOk_x0_0 D n v0_0 v0_1 v0_2) (fun v1_0 v1_1 => impl_placesOk_x0_1 D n v1_0 v1_1) n x0 x1 x2 x3 x4 x5)
noncomputable def impl_placesOk_e (D : Den ctx) (n : Nat) (lp0 : List Int → Int → List Int → Int → Int → List (ByteArray × Int × Bool × Unit) × List Int × List (ByteArray × List Int × Bool × Unit) × Unit → Option ((Bool × Unit) × Unit)) (a0 : List (ByteArray × Int × Bool × Unit) × List Int × List (ByteArray × List Int × Bool × Unit) × Unit) (a1 : List Int) (a2 : Int) : Option ((Bool × Unit) × Unit) := lp0 a1 a2 a1 (↑(List.length a1) : Int) 0 a0
noncomputable def F_impl_placesOk (D : Den ctx) (n : Nat) (a0 : List (ByteArray × Int × Bool × Unit) × List Int × List (ByteArray × List Int × Bool × Unit) × Unit) (a1 : List Int) (a2 : Int) : Option ((Bool × Unit) × Unit) := impl_placesOk_e D n (impl_placesOk_LP0 D n) a0 a1 a2
def impl_placesOk_Q0 (x0 : List Int) (x1 : Int) (x2 : List Int) (x3 : Int) (x4 : Int) (x5 : List (ByteArray × Int × Bool × Unit) × List Int × List (ByteArray × List Int × Bool × Unit) × Unit) : St := stq 35 [(1, AV.val (Ty.sl (Ty.int IntKind.i64)) x0), (2, AV.val (Ty.int IntKind.i64) x1), (3, AV.addr 3 []), (9, AV.val (Ty.sl (Ty.int IntKind.i64)) x2), (10, AV.val (Ty.int IntKind.i64) x3), (11, AV.val (Ty.int IntKind.i64) x4)] [(3, Root.mk (Ty.pair (Ty.sl (Ty.pair Ty.str (Ty.pair (Ty.int IntKind.i64) (Ty.pair Ty.bool Ty.unit)))) (Ty.pair (Ty.sl (Ty.int IntKind.i64)) (Ty.pair (Ty.sl (Ty.pair Ty.str (Ty.pair (Ty.sl (Ty.int IntKind.i64)) (Ty.pair Ty.bool Ty.unit)))) Ty.unit))) Mk.no x5 true)]
def impl_placesOk_Q0_0 (v0_0 : List Int) (v0_1 : Int) (v0_2 : Bool) : St := stq 35 [(1, AV.val (Ty.sl (Ty.int IntKind.i64)) v0_0), (2, AV.val (Ty.int IntKind.i64) v0_1), (6, AV.val Ty.bool v0_2)] []
def impl_placesOk_Q0_1 (v1_0 : List Int) (v1_1 : Int) : St := stq 35 [(1, AV.val (Ty.sl (Ty.int IntKind.i64)) v1_0), (2, AV.val (Ty.int IntKind.i64) v1_1)] []
theorem impl_placesOk_SB0 (D : Den ctx) (n : Nat) (m : Nat) (K : Ex → St → Option (Out ctx 80)) (x0 : List Int) (x1 : Int) (x2 : List Int) (x3 : Int) (x4 : Int) (x5 : List (ByteArray × Int × Bool × Unit) × List Int × List (ByteArray × List Int × Bool × Unit) × Unit) :
  LQ funcTab D n 80 [.r, .l, .r, .l] (m + 1) (impl_placesOk_Q0 x0 x1 x2 x3 x4 x5) K = impl_placesOk_b0 D n (fun x0 x1 x2 x3 x4 x5 => LQ funcTab D n 80 [.r, .l, .r, .l] m (impl_placesOk_Q0 x0 x1 x2 x3 x4 x5) K) (fun v0_0 v0_1 v0_2 => K (Ex.ret) (impl_placesOk_Q0_0 v0_0 v0_1 v0_2)) (fun v1_0 v1_1 => K (Ex.exit 0) (impl_placesOk_Q0_1 v1_0 v1_1)) x0 x1 x2 x3 x4 x5 := by kernel_rfl
theorem impl_placesOk_EL0 (D : Den ctx) (n : Nat) (K : Ex → St → Option (Out ctx 80)) : ∀ (m : Nat) (x0 : List Int) (x1 : Int) (x2 : List Int) (x3 : Int) (x4 : Int) (x5 : List (ByteArray × Int × Bool × Unit) × List Int × List (ByteArray × List Int × Bool × Unit) × Unit), LQ funcTab D n 80 [.r, .l, .r, .l] m (impl_placesOk_Q0 x0 x1 x2 x3 x4 x5) K = impl_placesOk_L0 D n (fun v0_0 v0_1 v0_2 => K (Ex.ret) (impl_placesOk_Q0_0 v0_0 v0_1 v0_2)) (fun v1_0 v1_1 => K (Ex.exit 0) (impl_placesOk_Q0_1 v1_0 v1_1)) m x0 x1 x2 x3 x4 x5
  | 0, x0, x1, x2, x3, x4, x5 => LQ_zero ..
  | m + 1, x0, x1, x2, x3, x4, x5 => by
    have ih : (fun x0 x1 x2 x3 x4 x5 => LQ funcTab D n 80 [.r, .l, .r, .l] m (impl_placesOk_Q0 x0 x1 x2 x3 x4 x5) K) = impl_placesOk_L0 D n (fun v0_0 v0_1 v0_2 => K (Ex.ret) (impl_placesOk_Q0_0 v0_0 v0_1 v0_2)) (fun v1_0 v1_1 => K (Ex.exit 0) (impl_placesOk_Q0_1 v1_0 v1_1)) m := by funext x0 x1 x2 x3 x4 x5; exact impl_placesOk_EL0 D n K m x0 x1 x2 x3 x4 x5
    rw [impl_placesOk_SB0]
    rw [ih]; rfl
theorem impl_placesOk_X0_0 (D : Den ctx) (n : Nat) (v0_0 : List Int) (v0_1 : Int) (v0_2 : Bool) :
  (CQ funcTab D n 80 [] [.r, .l, .r, .l] (lastK funcTab 80)) (Ex.ret) (impl_placesOk_Q0_0 v0_0 v0_1 v0_2) = impl_placesOk_x0_0 D n v0_0 v0_1 v0_2 := by kernel_rfl
theorem impl_placesOk_X0_1 (D : Den ctx) (n : Nat) (v1_0 : List Int) (v1_1 : Int) :
  (CQ funcTab D n 80 [] [.r, .l, .r, .l] (lastK funcTab 80)) (Ex.exit 0) (impl_placesOk_Q0_1 v1_0 v1_1) = impl_placesOk_x0_1 D n v1_0 v1_1 := by kernel_rfl
theorem impl_placesOk_ELP0 (D : Den ctx) (n : Nat) (x0 : List Int) (x1 : Int) (x2 : List Int) (x3 : Int) (x4 : Int) (x5 : List (ByteArray × Int × Bool × Unit) × List Int × List (ByteArray × List Int × Bool × Unit) × Unit) :
  LQ funcTab D n 80 [.r, .l, .r, .l] n (impl_placesOk_Q0 x0 x1 x2 x3 x4 x5) (CQ funcTab D n 80 [] [.r, .l, .r, .l] (lastK funcTab 80)) = impl_placesOk_LP0 D n x0 x1 x2 x3 x4 x5 := by
  rw [impl_placesOk_EL0]
  simp only [impl_placesOk_X0_0, impl_placesOk_X0_1]
  rfl
theorem E_impl_placesOk (D : Den ctx) (n : Nat) (a0 : List (ByteArray × Int × Bool × Unit) × List Int × List (ByteArray × List Int × Bool × Unit) × Unit) (a1 : List Int) (a2 : Int) : rfC funcTab D n 80 (a0, (a1, (a2, ()))) = F_impl_placesOk D n a0 a1 a2 := by
  have h : rfC funcTab D n 80 (a0, (a1, (a2, ()))) = impl_placesOk_e D n (fun x0 x1 x2 x3 x4 x5 => LQ funcTab D n 80 [.r, .l, .r, .l] n (impl_placesOk_Q0 x0 x1 x2 x3 x4 x5) (CQ funcTab D n 80 [] [.r, .l, .r, .l] (lastK funcTab 80))) a0 a1 a2 := by kernel_rfl
  rw [h]
  simp only [impl_placesOk_ELP0]
  rfl
end Go.G

namespace Go.G
set_option maxRecDepth 100000
set_option maxHeartbeats 0
open Go Go.V
noncomputable def slices_ContainsFunc_impl_Index_impl_Index_e (D : Den ctx) (n : Nat) (a1 : Clo) (a0 : List (ByteArray × List Int × Bool × Unit)) : Option ((Bool × Unit) × Unit) := bindD (C_slices_IndexFunc_impl_Index_impl_Index D a0 a1) fun b ↦ some ((decide (Prod.fst (Prod.fst b) ≥ 0), ()), ())
noncomputable def F_slices_ContainsFunc_impl_Index_impl_Index (D : Den ctx) (n : Nat) (a0 : List (ByteArray × List Int × Bool × Unit)) (a1 : Clo) : Option ((Bool × Unit) × Unit) := slices_ContainsFunc_impl_Index_impl_Index_e D n a1 a0
theorem E_slices_ContainsFunc_impl_Index_impl_Index (D : Den ctx) (n : Nat) (a0 : List (ByteArray × List Int × Bool × Unit)) (a1 : Clo) : rfC funcTab D n 81 (a0, (a1, ())) = F_slices_ContainsFunc_impl_Index_impl_Index D n a0 a1 := by kernel_rfl
end Go.G

namespace Go.G
set_option maxRecDepth 100000
set_option maxHeartbeats 0
open Go Go.V
noncomputable def impl_SchemaOk_1_e (D : Den ctx) (n : Nat) (a0 : ByteArray × List Int × Bool × Unit) (a1 : ByteArray × List Int × Bool × Unit) : Option ((Bool × Unit) × Unit) := some ((List.beq (ByteArray.toList (Prod.fst a0)) (ByteArray.toList (Prod.fst a1)), ()), ())
noncomputable def F_impl_SchemaOk_1 (D : Den ctx) (n : Nat) (a0 : ByteArray × List Int × Bool × Unit) (a1 : ByteArray × List Int × Bool × Unit) : Option ((Bool × Unit) × Unit) := impl_SchemaOk_1_e D n a0 a1
theorem E_impl_SchemaOk_1 (D : Den ctx) (n : Nat) (a0 : ByteArray × List Int × Bool × Unit) (a1 : ByteArray × List Int × Bool × Unit) : rfC funcTab D n 82 (a0, (a1, ())) = F_impl_SchemaOk_1 D n a0 a1 := by kernel_rfl
end Go.G

namespace Go.G
set_option maxRecDepth 100000
set_option maxHeartbeats 0
open Go Go.V
noncomputable def slices_ContainsFunc_int_int_e (D : Den ctx) (n : Nat) (a1 : Clo) (a0 : List Int) : Option ((Bool × Unit) × Unit) := bindD (C_slices_IndexFunc_int_int D a0 a1) fun b ↦ some ((decide (Prod.fst (Prod.fst b) ≥ 0), ()), ())
noncomputable def F_slices_ContainsFunc_int_int (D : Den ctx) (n : Nat) (a0 : List Int) (a1 : Clo) : Option ((Bool × Unit) × Unit) := slices_ContainsFunc_int_int_e D n a1 a0
theorem E_slices_ContainsFunc_int_int (D : Den ctx) (n : Nat) (a0 : List Int) (a1 : Clo) : rfC funcTab D n 83 (a0, (a1, ())) = F_slices_ContainsFunc_int_int D n a0 a1 := by kernel_rfl
end Go.G

namespace Go.G
set_option maxRecDepth 100000
set_option maxHeartbeats 0
open Go Go.V
noncomputable def impl_SchemaOk_2_e (D : Den ctx) (n : Nat) (a0 : Int) (a1 : List (ByteArray × Int × Bool × Unit) × List Int × List (ByteArray × List Int × Bool × Unit) × Unit) : Option ((Bool × Unit) × Unit) := br (decide (0 ≤ a0) && decide (a0 < (↑(List.length (Prod.fst a1)) : Int))) (some ((Prod.fst (Prod.snd (Prod.snd (List.getD (Prod.fst a1) (Int.toNat a0) (ByteArray.empty, 0, false, ())))), ()), ())) none
noncomputable def F_impl_SchemaOk_2 (D : Den ctx) (n : Nat) (a0 : Int) (a1 : List (ByteArray × Int × Bool × Unit) × List Int × List (ByteArray × List Int × Bool × Unit) × Unit) : Option ((Bool × Unit) × Unit) := impl_SchemaOk_2_e D n a0 a1
theorem E_impl_SchemaOk_2 (D : Den ctx) (n : Nat) (a0 : Int) (a1 : List (ByteArray × Int × Bool × Unit) × List Int × List (ByteArray × List Int × Bool × Unit) × Unit) : rfC funcTab D n 84 (a0, (a1, ())) = F_impl_SchemaOk_2 D n a0 a1 := by kernel_rfl
end Go.G

namespace Go.G
set_option maxRecDepth 100000
set_option maxHeartbeats 0
open Go Go.V
noncomputable def laws_eqColS_b0 (D : Den ctx) (n : Nat) (go : List (ByteArray × Int × Bool × Unit) → List (ByteArray × Int × Bool × Unit) → Int → Option ((Bool × Unit) × Unit)) (K0 : Bool → Option ((Bool × Unit) × Unit)) (K1 : Option ((Bool × Unit) × Unit)) (x0 : List (ByteArray × Int × Bool × Unit)) (x1 : List (ByteArray × Int × Bool × Unit)) (x2 : Int) : Option ((Bool × Unit) × Unit) := br (decide (x2 < (↑(List.length x0) : Int))) (br (decide (0 ≤ x2) && decide (x2 < (↑(List.length x0) : Int))) (br (decide (0 ≤ x2) && decide (x2 < (↑(List.length x1) : Int))) (bindD (C_laws_eqCol D (List.getD x0 (Int.toNat x2) (ByteArray.empty, 0, false, ())) (List.getD x1 (Int.toNat x2) (ByteArray.empty, 0, false, ()))) fun b ↦ br (!Prod.fst (Prod.fst b)) (K0 false) (go x0 x1 (IntKind.wrap IntKind.i64 (x2 + 1)))) none) none) K1
noncomputable def laws_eqColS_L0 (D : Den ctx) (n : Nat) (K0 : Bool → Option ((Bool × Unit) × Unit)) (K1 : Option ((Bool × Unit) × Unit)) : Nat → (List (ByteArray × Int × Bool × Unit)) → (List (ByteArray × Int × Bool × Unit)) → (Int) → Option ((Bool × Unit) × Unit) | 0 => (fun x0 x1 x2 => none) | m + 1 => (fun x0 x1 x2 => laws_eqColS_b0 D n (laws_eqColS_L0 D n K0 K1 m) K0 K1 x0 x1 x2)
noncomputable def laws_eqColS_x0_0 (D : Den ctx) (n : Nat) (v0_0 : Bool) : Option ((Bool × Unit) × Unit) := some ((v0_0, ()), ())
noncomputable def laws_eqColS_x0_1 (D : Den ctx) (n : Nat) : Option ((Bool × Unit) × Unit) := some ((true, ()), ())
noncomputable def laws_eqColS_LP0 (D : Den ctx) (n : Nat) : (List (ByteArray × Int × Bool × Unit)) → (List (ByteArray × Int × Bool × Unit)) → (Int) → Option ((Bool × Unit) × Unit) := (fun x0 x1 x2 => laws_eqColS_L0 D n (fun v0_0 => laws_eqColS_x0_0 D n v0_0) (laws_eqColS_x0_1 D n) n x0 x1 x2)
noncomputable def laws_eqColS_e (D : Den ctx) (n : Nat) (lp0 : List (ByteArray × Int × Bool × Unit) → List (ByteArray × Int × Bool × Unit) → Int → Option ((Bool × Unit) × Unit)) (a0 : List (ByteArray × Int × Bool × Unit)) (a1 : List (ByteArray × Int × Bool × Unit)) : Option ((Bool × Unit) × Unit) := br ((↑(List.length a0) : Int) != (↑(List.length a1) : Int)) (some ((false, ()), ())) (lp0 a0 a1 0)
noncomputable def F_laws_eqColS (D : Den ctx) (n : Nat) (a0 : List (ByteArray × Int × Bool × Unit)) (a1 : List (ByteArray × Int × Bool × Unit)) : Option ((Bool × Unit) × Unit) := laws_eqColS_e D n (laws_eqColS_LP0 D n) a0 a1
def laws_eqColS_Q0 (x0 : List (ByteArray × Int × Bool × Unit)) (x1 : List (ByteArray × Int × Bool × Unit)) (x2 : Int) : St := stq 27 [(0, AV.val (Ty.sl (Ty.pair Ty.str (Ty.pair (Ty.int IntKind.i64) (Ty.pair Ty.bool Ty.unit)))) x0), (1, AV.val (Ty.sl (Ty.pair Ty.str (Ty.pair (Ty.int IntKind.i64) (Ty.pair Ty.bool Ty.unit)))) x1), (5, AV.val (Ty.int IntKind.i64) x2)] []
def laws_eqColS_Q0_0 (v0_0 : Bool) : St := stq 27 [(4, AV.val Ty.bool v0_0)] []
def laws_eqColS_Q0_1 : St := stq 27 [] []
theorem laws_eqColS_SB0 (D : Den ctx) (n : Nat) (m : Nat) (K : Ex → St → Option (Out ctx 85)) (x0 : List (ByteArray × Int × Bool × Unit)) (x1 : List (ByteArray × Int × Bool × Unit)) (x2 : Int) :
  LQ funcTab D n 85 [.r, .r, .l, .r, .l] (m + 1) (laws_eqColS_Q0 x0 x1 x2) K = laws_eqColS_b0 D n (fun x0 x1 x2 => LQ funcTab D n 85 [.r, .r, .l, .r, .l] m (laws_eqColS_Q0 x0 x1 x2) K) (fun v0_0 => K (Ex.ret) (laws_eqColS_Q0_0 v0_0)) (K (Ex.exit 0) (laws_eqColS_Q0_1)) x0 x1 x2 := by kernel_rfl
theorem laws_eqColS_EL0 (D : Den ctx) (n : Nat) (K : Ex → St → Option (Out ctx 85)) : ∀ (m : Nat) (x0 : List (ByteArray × Int × Bool × Unit)) (x1 : List (ByteArray × Int × Bool × Unit)) (x2 : Int), LQ funcTab D n 85 [.r, .r, .l, .r, .l] m (laws_eqColS_Q0 x0 x1 x2) K = laws_eqColS_L0 D n (fun v0_0 => K (Ex.ret) (laws_eqColS_Q0_0 v0_0)) (K (Ex.exit 0) (laws_eqColS_Q0_1)) m x0 x1 x2
  | 0, x0, x1, x2 => LQ_zero ..
  | m + 1, x0, x1, x2 => by
    have ih : (fun x0 x1 x2 => LQ funcTab D n 85 [.r, .r, .l, .r, .l] m (laws_eqColS_Q0 x0 x1 x2) K) = laws_eqColS_L0 D n (fun v0_0 => K (Ex.ret) (laws_eqColS_Q0_0 v0_0)) (K (Ex.exit 0) (laws_eqColS_Q0_1)) m := by funext x0 x1 x2; exact laws_eqColS_EL0 D n K m x0 x1 x2
    rw [laws_eqColS_SB0]
    rw [ih]; rfl
theorem laws_eqColS_X0_0 (D : Den ctx) (n : Nat) (v0_0 : Bool) :
  (CQ funcTab D n 85 [] [.r, .r, .l, .r, .l] (lastK funcTab 85)) (Ex.ret) (laws_eqColS_Q0_0 v0_0) = laws_eqColS_x0_0 D n v0_0 := by kernel_rfl
theorem laws_eqColS_X0_1 (D : Den ctx) (n : Nat) :
  (CQ funcTab D n 85 [] [.r, .r, .l, .r, .l] (lastK funcTab 85)) (Ex.exit 0) (laws_eqColS_Q0_1) = laws_eqColS_x0_1 D n := by kernel_rfl
theorem laws_eqColS_ELP0 (D : Den ctx) (n : Nat) (x0 : List (ByteArray × Int × Bool × Unit)) (x1 : List (ByteArray × Int × Bool × Unit)) (x2 : Int) :
  LQ funcTab D n 85 [.r, .r, .l, .r, .l] n (laws_eqColS_Q0 x0 x1 x2) (CQ funcTab D n 85 [] [.r, .r, .l, .r, .l] (lastK funcTab 85)) = laws_eqColS_LP0 D n x0 x1 x2 := by
  rw [laws_eqColS_EL0]
  simp only [laws_eqColS_X0_0, laws_eqColS_X0_1]
  rfl
theorem E_laws_eqColS (D : Den ctx) (n : Nat) (a0 : List (ByteArray × Int × Bool × Unit)) (a1 : List (ByteArray × Int × Bool × Unit)) : rfC funcTab D n 85 (a0, (a1, ())) = F_laws_eqColS D n a0 a1 := by
  have h : rfC funcTab D n 85 (a0, (a1, ())) = laws_eqColS_e D n (fun x0 x1 x2 => LQ funcTab D n 85 [.r, .r, .l, .r, .l] n (laws_eqColS_Q0 x0 x1 x2) (CQ funcTab D n 85 [] [.r, .r, .l, .r, .l] (lastK funcTab 85))) a0 a1 := by kernel_rfl
  rw [h]
  simp only [laws_eqColS_ELP0]
  rfl
end Go.G

namespace Go.G
set_option maxRecDepth 100000
set_option maxHeartbeats 0
open Go Go.V
noncomputable def laws_eqIntS_b0 (D : Den ctx) (n : Nat) (go : List Int → List Int → Int → Option ((Bool × Unit) × Unit)) (K0 : Bool → Option ((Bool × Unit) × Unit)) (K1 : Option ((Bool × Unit) × Unit)) (x0 : List Int) (x1 : List Int) (x2 : Int) : Option ((Bool × Unit) × Unit) := br (decide (x2 < (↑(List.length x0) : Int))) (br (decide (0 ≤ x2) && decide (x2 < (↑(List.length x0) : Int))) (br (decide (0 ≤ x2) && decide (x2 < (↑(List.length x1) : Int))) (br (List.getD x0 (Int.toNat x2) 0 != List.getD x1 (Int.toNat x2) 0) (K0 false) (go x0 x1 (IntKind.wrap IntKind.i64 (x2 + 1)))) none) none) K1
noncomputable def laws_eqIntS_L0 (D : Den ctx) (n : Nat) (K0 : Bool → Option ((Bool × Unit) × Unit)) (K1 : Option ((Bool × Unit) × Unit)) : Nat → (List Int) → (List Int) → (Int) → Option ((Bool × Unit) × Unit) | 0 => (fun x0 x1 x2 => none) | m + 1 => (fun x0 x1 x2 => laws_eqIntS_b0 D n (laws_eqIntS_L0 D n K0 K1 m) K0 K1 x0 x1 x2)
noncomputable def laws_eqIntS_x0_0 (D : Den ctx) (n : Nat) (v0_0 : Bool) : Option ((Bool × Unit) × Unit) := some ((v0_0, ()), ())
noncomputable def laws_eqIntS_x0_1 (D : Den ctx) (n : Nat) : Option ((Bool × Unit) × Unit) := some ((true, ()), ())
noncomputable def laws_eqIntS_LP0 (D : Den ctx) (n : Nat) : (List Int) → (List Int) → (Int) → Option ((Bool × Unit) × Unit) := (fun x0 x1 x2 => laws_eqIntS_L0 D n (fun v0_0 => laws_eqIntS_x0_0 D n v0_0) (laws_eqIntS_x0_1 D n) n x0 x1 x2)
noncomputable def laws_eqIntS_e (D : Den ctx) (n : Nat) (lp0 : List Int → List Int → Int → Option ((Bool × Unit) × Unit)) (a0 : List Int) (a1 : List Int) : Option ((Bool × Unit) × Unit) := br ((↑(List.length a0) : Int) != (↑(List.length a1) : Int)) (some ((false, ()), ())) (lp0 a0 a1 0)
noncomputable def F_laws_eqIntS (D : Den ctx) (n : Nat) (a0 : List Int) (a1 : List Int) : Option ((Bool × Unit) × Unit) := laws_eqIntS_e D n (laws_eqIntS_LP0 D n) a0 a1
def laws_eqIntS_Q0 (x0 : List Int) (x1 : List Int) (x2 : Int) : St := stq 26 [(0, AV.val (Ty.sl (Ty.int IntKind.i64)) x0), (1, AV.val (Ty.sl (Ty.int IntKind.i64)) x1), (5, AV.val (Ty.int IntKind.i64) x2)] []
def laws_eqIntS_Q0_0 (v0_0 : Bool) : St := stq 26 [(4, AV.val Ty.bool v0_0)] []
def laws_eqIntS_Q0_1 : St := stq 26 [] []
theorem laws_eqIntS_SB0 (D : Den ctx) (n : Nat) (m : Nat) (K : Ex → St → Option (Out ctx 86)) (x0 : List Int) (x1 : List Int) (x2 : Int) :
  LQ funcTab D n 86 [.r, .r, .l, .r, .l] (m + 1) (laws_eqIntS_Q0 x0 x1 x2) K = laws_eqIntS_b0 D n (fun x0 x1 x2 => LQ funcTab D n 86 [.r, .r, .l, .r, .l] m (laws_eqIntS_Q0 x0 x1 x2) K) (fun v0_0 => K (Ex.ret) (laws_eqIntS_Q0_0 v0_0)) (K (Ex.exit 0) (laws_eqIntS_Q0_1)) x0 x1 x2 := by kernel_rfl
theorem laws_eqIntS_EL0 (D : Den ctx) (n : Nat) (K : Ex → St → Option (Out ctx 86)) : ∀ (m : Nat) (x0 : List Int) (x1 : List Int) (x2 : Int), LQ funcTab D n 86 [.r, .r, .l, .r, .l] m (laws_eqIntS_Q0 x0 x1 x2) K = laws_eqIntS_L0 D n (fun v0_0 => K (Ex.ret) (laws_eqIntS_Q0_0 v0_0)) (K (Ex.exit 0) (laws_eqIntS_Q0_1)) m x0 x1 x2
  | 0, x0, x1, x2 => LQ_zero ..
  | m + 1, x0, x1, x2 => by
    have ih : (fun x0 x1 x2 => LQ funcTab D n 86 [.r, .r, .l, .r, .l] m (laws_eqIntS_Q0 x0 x1 x2) K) = laws_eqIntS_L0 D n (fun v0_0 => K (Ex.ret) (laws_eqIntS_Q0_0 v0_0)) (K (Ex.exit 0) (laws_eqIntS_Q0_1)) m := by funext x0 x1 x2; exact laws_eqIntS_EL0 D n K m x0 x1 x2
    rw [laws_eqIntS_SB0]
    rw [ih]; rfl
theorem laws_eqIntS_X0_0 (D : Den ctx) (n : Nat) (v0_0 : Bool) :
  (CQ funcTab D n 86 [] [.r, .r, .l, .r, .l] (lastK funcTab 86)) (Ex.ret) (laws_eqIntS_Q0_0 v0_0) = laws_eqIntS_x0_0 D n v0_0 := by kernel_rfl
theorem laws_eqIntS_X0_1 (D : Den ctx) (n : Nat) :
  (CQ funcTab D n 86 [] [.r, .r, .l, .r, .l] (lastK funcTab 86)) (Ex.exit 0) (laws_eqIntS_Q0_1) = laws_eqIntS_x0_1 D n := by kernel_rfl
theorem laws_eqIntS_ELP0 (D : Den ctx) (n : Nat) (x0 : List Int) (x1 : List Int) (x2 : Int) :
  LQ funcTab D n 86 [.r, .r, .l, .r, .l] n (laws_eqIntS_Q0 x0 x1 x2) (CQ funcTab D n 86 [] [.r, .r, .l, .r, .l] (lastK funcTab 86)) = laws_eqIntS_LP0 D n x0 x1 x2 := by
  rw [laws_eqIntS_EL0]
  simp only [laws_eqIntS_X0_0, laws_eqIntS_X0_1]
  rfl
theorem E_laws_eqIntS (D : Den ctx) (n : Nat) (a0 : List Int) (a1 : List Int) : rfC funcTab D n 86 (a0, (a1, ())) = F_laws_eqIntS D n a0 a1 := by
  have h : rfC funcTab D n 86 (a0, (a1, ())) = laws_eqIntS_e D n (fun x0 x1 x2 => LQ funcTab D n 86 [.r, .r, .l, .r, .l] n (laws_eqIntS_Q0 x0 x1 x2) (CQ funcTab D n 86 [] [.r, .r, .l, .r, .l] (lastK funcTab 86))) a0 a1 := by kernel_rfl
  rw [h]
  simp only [laws_eqIntS_ELP0]
  rfl
end Go.G

namespace Go.G
set_option maxRecDepth 100000
set_option maxHeartbeats 0
open Go Go.V
noncomputable def laws_eqIndexS_b0 (D : Den ctx) (n : Nat) (go : List (ByteArray × List Int × Bool × Unit) → List (ByteArray × List Int × Bool × Unit) → Int → Option ((Bool × Unit) × Unit)) (K0 : Bool → Option ((Bool × Unit) × Unit)) (K1 : Option ((Bool × Unit) × Unit)) (x0 : List (ByteArray × List Int × Bool × Unit)) (x1 : List (ByteArray × List Int × Bool × Unit)) (x2 : Int) : Option ((Bool × Unit) × Unit) := br (decide (x2 < (↑(List.length x0) : Int))) (br (decide (0 ≤ x2) && decide (x2 < (↑(List.length x0) : Int))) (br (decide (0 ≤ x2) && decide (x2 < (↑(List.length x1) : Int))) (bindD (C_laws_eqIndex D (List.getD x0 (Int.toNat x2) (ByteArray.empty, [], false, ())) (List.getD x1 (Int.toNat x2) (ByteArray.empty, [], false, ()))) fun b ↦ br (!Prod.fst (Prod.fst b)) (K0 false) (go x0 x1 (IntKind.wrap IntKind.i64 (x2 + 1)))) none) none) K1
noncomputable def laws_eqIndexS_L0 (D : Den ctx) (n : Nat) (K0 : Bool → Option ((Bool × Unit) × Unit)) (K1 : Option ((Bool × Unit) × Unit)) : Nat → (List (ByteArray × List Int × Bool × Unit)) → (List (ByteArray × List Int × Bool × Unit)) → (Int) → Option ((Bool × Unit) × Unit) | 0 => (fun x0 x1 x2 => none) | m + 1 => (fun x0 x1 x2 => laws_eqIndexS_b0 D n (laws_eqIndexS_L0 D n K0 K1 m) K0 K1 x0 x1 x2)
noncomputable def laws_eqIndexS_x0_0 (D : Den ctx) (n : Nat) (v0_0 : Bool) : Option ((Bool × Unit) × Unit) := some ((v0_0, ()), ())
noncomputable def laws_eqIndexS_x0_1 (D : Den ctx) (n : Nat) : Option ((Bool × Unit) × Unit) := some ((true, ()), ())
noncomputable def laws_eqIndexS_LP0 (D : Den ctx) (n : Nat) : (List (ByteArray × List Int × Bool × Unit)) → (List (ByteArray × List Int × Bool × Unit)) → (Int) → Option ((Bool × Unit) × Unit) := (fun x0 x1 x2 => laws_eqIndexS_L0 D n (fun v0_0 => laws_eqIndexS_x0_0 D n v0_0) (laws_eqIndexS_x0_1 D n) n x0 x1 x2)
noncomputable def laws_eqIndexS_e (D : Den ctx) (n : Nat) (lp0 : List (ByteArray × List Int × Bool × Unit) → List (ByteArray × List Int × Bool × Unit) → Int → Option ((Bool × Unit) × Unit)) (a0 : List (ByteArray × List Int × Bool × Unit)) (a1 : List (ByteArray × List Int × Bool × Unit)) : Option ((Bool × Unit) × Unit) := br ((↑(List.length a0) : Int) != (↑(List.length a1) : Int)) (some ((false, ()), ())) (lp0 a0 a1 0)
noncomputable def F_laws_eqIndexS (D : Den ctx) (n : Nat) (a0 : List (ByteArray × List Int × Bool × Unit)) (a1 : List (ByteArray × List Int × Bool × Unit)) : Option ((Bool × Unit) × Unit) := laws_eqIndexS_e D n (laws_eqIndexS_LP0 D n) a0 a1
def laws_eqIndexS_Q0 (x0 : List (ByteArray × List Int × Bool × Unit)) (x1 : List (ByteArray × List Int × Bool × Unit)) (x2 : Int) : St := stq 27 [(0, AV.val (Ty.sl (Ty.pair Ty.str (Ty.pair (Ty.sl (Ty.int IntKind.i64)) (Ty.pair Ty.bool Ty.unit)))) x0), (1, AV.val (Ty.sl (Ty.pair Ty.str (Ty.pair (Ty.sl (Ty.int IntKind.i64)) (Ty.pair Ty.bool Ty.unit)))) x1), (5, AV.val (Ty.int IntKind.i64) x2)] []
def laws_eqIndexS_Q0_0 (v0_0 : Bool) : St := stq 27 [(4, AV.val Ty.bool v0_0)] []
def laws_eqIndexS_Q0_1 : St := stq 27 [] []
theorem laws_eqIndexS_SB0 (D : Den ctx) (n : Nat) (m : Nat) (K : Ex → St → Option (Out ctx 87)) (x0 : List (ByteArray × List Int × Bool × Unit)) (x1 : List (ByteArray × List Int × Bool × Unit)) (x2 : Int) :
  LQ funcTab D n 87 [.r, .r, .l, .r, .l] (m + 1) (laws_eqIndexS_Q0 x0 x1 x2) K = laws_eqIndexS_b0 D n (fun x0 x1 x2 => LQ funcTab D n 87 [.r, .r, .l, .r, .l] m (laws_eqIndexS_Q0 x0 x1 x2) K) (fun v0_0 => K (Ex.ret) (laws_eqIndexS_Q0_0 v0_0)) (K (Ex.exit 0) (laws_eqIndexS_Q0_1)) x0 x1 x2 := by kernel_rfl
theorem laws_eqIndexS_EL0 (D : Den ctx) (n : Nat) (K : Ex → St → Option (Out ctx 87)) : ∀ (m : Nat) (x0 : List (ByteArray × List Int × Bool × Unit)) (x1 : List (ByteArray × List Int × Bool × Unit)) (x2 : Int), LQ funcTab D n 87 [.r, .r, .l, .r, .l] m (laws_eqIndexS_Q0 x0 x1 x2) K = laws_eqIndexS_L0 D n (fun v0_0 => K (Ex.ret) (laws_eqIndexS_Q0_0 v0_0)) (K (Ex.exit 0) (laws_eqIndexS_Q0_1)) m x0 x1 x2
  | 0, x0, x1, x2 => LQ_zero ..
  | m + 1, x0, x1, x2 => by
    have ih : (fun x0 x1 x2 => LQ funcTab D n 87 [.r, .r, .l, .r, .l] m (laws_eqIndexS_Q0 x0 x1 x2) K) = laws_eqIndexS_L0 D n (fun v0_0 => K (Ex.ret) (laws_eqIndexS_Q0_0 v0_0)) (K (Ex.exit 0) (laws_eqIndexS_Q0_1)) m := by funext x0 x1 x2; exact laws_eqIndexS_EL0 D n K m x0 x1 x2
    rw [laws_eqIndexS_SB0]
    rw [ih]; rfl
theorem laws_eqIndexS_X0_0 (D : Den ctx) (n : Nat) (v0_0 : Bool) :
  (CQ funcTab D n 87 [] [.r, .r, .l, .r, .l] (lastK funcTab 87)) (Ex.ret) (laws_eqIndexS_Q0_0 v0_0) = laws_eqIndexS_x0_0 D n v0_0 := by kernel_rfl
theorem laws_eqIndexS_X0_1 (D : Den ctx) (n : Nat) :
  (CQ funcTab D n 87 [] [.r, .r, .l, .r, .l] (lastK funcTab 87)) (Ex.exit 0) (laws_eqIndexS_Q0_1) = laws_eqIndexS_x0_1 D n := by kernel_rfl
theorem laws_eqIndexS_ELP0 (D : Den ctx) (n : Nat) (x0 : List (ByteArray × List Int × Bool × Unit)) (x1 : List (ByteArray × List Int × Bool × Unit)) (x2 : Int) :
  LQ funcTab D n 87 [.r, .r, .l, .r, .l] n (laws_eqIndexS_Q0 x0 x1 x2) (CQ funcTab D n 87 [] [.r, .r, .l, .r, .l] (lastK funcTab 87)) = laws_eqIndexS_LP0 D n x0 x1 x2 := by
  rw [laws_eqIndexS_EL0]
  simp only [laws_eqIndexS_X0_0, laws_eqIndexS_X0_1]
  rfl
theorem E_laws_eqIndexS (D : Den ctx) (n : Nat) (a0 : List (ByteArray × List Int × Bool × Unit)) (a1 : List (ByteArray × List Int × Bool × Unit)) : rfC funcTab D n 87 (a0, (a1, ())) = F_laws_eqIndexS D n a0 a1 := by
  have h : rfC funcTab D n 87 (a0, (a1, ())) = laws_eqIndexS_e D n (fun x0 x1 x2 => LQ funcTab D n 87 [.r, .r, .l, .r, .l] n (laws_eqIndexS_Q0 x0 x1 x2) (CQ funcTab D n 87 [] [.r, .r, .l, .r, .l] (lastK funcTab 87))) a0 a1 := by kernel_rfl
  rw [h]
  simp only [laws_eqIndexS_ELP0]
  rfl
end Go.G

namespace Go.G
set_option maxRecDepth 100000
set_option maxHeartbeats 0
open Go Go.V
noncomputable def impl_ValueOk_e (D : Den ctx) (n : Nat) (a0 : Int × Int × ByteArray × Unit) : Option ((Bool × Unit) × Unit) := br (decide (Prod.fst a0 = 0)) (some ((bif decide (Prod.fst (Prod.snd a0) = 0) then List.beq (ByteArray.toList (Prod.fst (Prod.snd (Prod.snd a0)))) (ByteArray.toList (ByteArray.mk #[])) else false, ()), ())) (br (decide (Prod.fst a0 = 1)) (bindD (C_impl_from D (Prod.fst (Prod.snd a0)) 0 1) fun b ↦ some ((bif Prod.fst (Prod.fst b) then List.beq (ByteArray.toList (Prod.fst (Prod.snd (Prod.snd a0)))) (ByteArray.toList (ByteArray.mk #[])) else false, ()), ())) (br (decide (Prod.fst a0 = 2)) (bindD (C_impl_from D (Prod.fst (Prod.snd a0)) (-1000000000000) 1000000000000) fun b ↦ some ((bif Prod.fst (Prod.fst b) then List.beq (ByteArray.toList (Prod.fst (Prod.snd (Prod.snd a0)))) (ByteArray.toList (ByteArray.mk #[])) else false, ()), ())) (br (decide (Prod.fst a0 = 3)) (some ((bif decide (Prod.fst (Prod.snd a0) = 0) then decide ((↑(ByteArray.size (Prod.fst (Prod.snd (Prod.snd a0)))) : Int) ≤ 20) else false, ()), ())) (some ((false, ()), ())))))
noncomputable def F_impl_ValueOk (D : Den ctx) (n : Nat) (a0 : Int × Int × ByteArray × Unit) : Option ((Bool × Unit) × Unit) := impl_ValueOk_e D n a0
theorem E_impl_ValueOk (D : Den ctx) (n : Nat) (a0 : Int × Int × ByteArray × Unit) : rfC funcTab D n 94 (a0, ()) = F_impl_ValueOk D n a0 := by kernel_rfl
end Go.G

namespace Go.G
set_option maxRecDepth 100000
set_option maxHeartbeats 0
open Go Go.V
noncomputable def spec_ValueOk_e (D : Den ctx) (n : Nat) (a0 : Int × Int × ByteArray × Unit) : Option ((Bool × Unit) × Unit) := br (decide (Prod.fst a0 = 0)) (some ((bif decide (Prod.fst (Prod.snd a0) = 0) then List.beq (ByteArray.toList (Prod.fst (Prod.snd (Prod.snd a0)))) (ByteArray.toList (ByteArray.mk #[])) else false, ()), ())) (br (decide (Prod.fst a0 = 1)) (bindD (C_spec_l1In D (Prod.fst (Prod.snd a0)) 0 1) fun b ↦ some ((bif Prod.fst (Prod.fst b) then List.beq (ByteArray.toList (Prod.fst (Prod.snd (Prod.snd a0)))) (ByteArray.toList (ByteArray.mk #[])) else false, ()), ())) (br (decide (Prod.fst a0 = 2)) (bindD (C_spec_l1In D (Prod.fst (Prod.snd a0)) (-1000000000000) 1000000000000) fun b ↦ some ((bif Prod.fst (Prod.fst b) then List.beq (ByteArray.toList (Prod.fst (Prod.snd (Prod.snd a0)))) (ByteArray.toList (ByteArray.mk #[])) else false, ()), ())) (br (decide (Prod.fst a0 = 3)) (some ((bif decide (Prod.fst (Prod.snd a0) = 0) then decide ((↑(ByteArray.size (Prod.fst (Prod.snd (Prod.snd a0)))) : Int) ≤ 20) else false, ()), ())) (some ((false, ()), ())))))
noncomputable def F_spec_ValueOk (D : Den ctx) (n : Nat) (a0 : Int × Int × ByteArray × Unit) : Option ((Bool × Unit) × Unit) := spec_ValueOk_e D n a0
theorem E_spec_ValueOk (D : Den ctx) (n : Nat) (a0 : Int × Int × ByteArray × Unit) : rfC funcTab D n 95 (a0, ()) = F_spec_ValueOk D n a0 := by kernel_rfl
end Go.G

namespace Go.G
set_option maxRecDepth 100000
set_option maxHeartbeats 0
open Go Go.V
noncomputable def slices_IndexFunc_impl_Col_impl_Col_b0 (D : Den ctx) (n : Nat) (a1 : Clo) (go : List (ByteArray × Int × Bool × Unit) → Int → Int → Option ((Int × Unit) × Unit)) (K0 : Int → Option ((Int × Unit) × Unit)) (K1 : Option ((Int × Unit) × Unit)) (x0 : List (ByteArray × Int × Bool × Unit)) (x1 : Int) (x2 : Int) : Option ((Int × Unit) × Unit) := br (decide (x2 < x1)) (br (decide (0 ≤ x2) && decide (x2 < (↑(List.length x0) : Int))) (bindD (applyClo ctx D a1 [CapV.val (Ty.pair Ty.str (Ty.pair (Ty.int IntKind.i64) (Ty.pair Ty.bool Ty.unit))) (List.getD x0 (Int.toNat x2) (ByteArray.empty, 0, false, ()))] Ty.bool) fun b ↦ br b (K0 x2) (go x0 x1 (IntKind.wrap IntKind.i64 (x2 + 1)))) none) K1
noncomputable def slices_IndexFunc_impl_Col_impl_Col_L0 (D : Den ctx) (n : Nat) (a1 : Clo) (K0 : Int → Option ((Int × Unit) × Unit)) (K1 : Option ((Int × Unit) × Unit)) : Nat → (List (ByteArray × Int × Bool × Unit)) → (Int) → (Int) → Option ((Int × Unit) × Unit) | 0 => (fun x0 x1 x2 => none) | m + 1 => (fun x0 x1 x2 => slices_IndexFunc_impl_Col_impl_Col_b0 D n a1 (slices_IndexFunc_impl_Col_impl_Col_L0 D n a1 K0 K1 m) K0 K1 x0 x1 x2)
noncomputable def slices_IndexFunc_impl_Col_impl_Col_x0_0 (D : Den ctx) (n : Nat) (a1 : Clo) (v0_0 : Int) : Option ((Int × Unit) × Unit) := some ((v0_0, ()), ())
noncomputable def slices_IndexFunc_impl_Col_impl_Col_x0_1 (D : Den ctx) (n : Nat) (a1 : Clo) : Option ((Int × Unit) × Unit) := some ((-1, ()), ())
noncomputable def slices_IndexFunc_impl_Col_impl_Col_LP0 (D : Den ctx) (n : Nat) (a1 : Clo) : (List (ByteArray × Int × Bool × Unit)) → (Int) → (Int) → Option ((Int × Unit) × Unit) := (fun x0 x1 x2 => slices_IndexFunc_impl_Col_impl_Col_L0 D n a1 (fun v0_0 => slices_IndexFunc_impl_Col_impl_Col_x0_0 D n a1 v0_0) (slices_IndexFunc_impl_Col_impl_Col_x0_1 D n a1) n x0 x1 x2)
noncomputable def slices_IndexFunc_impl_Col_impl_Col_e (D : Den ctx) (n : Nat) (a1 : Clo) (lp0 : List (ByteArray × Int × Bool × Unit) → Int → Int → Option ((Int × Unit) × Unit)) (a0 : List (ByteArray × Int × Bool × Unit)) : Option ((Int × Unit) × Unit) := lp0 a0 (↑(List.length a0) : Int) 0
noncomputable def F_slices_IndexFunc_impl_Col_impl_Col (D : Den ctx) (n : Nat) (a0 : List (ByteArray × Int × Bool × Unit)) (a1 : Clo) : Option ((Int × Unit) × Unit) := slices_IndexFunc_impl_Col_impl_Col_e D n a1 (slices_IndexFunc_impl_Col_impl_Col_LP0 D n a1) a0
def slices_IndexFunc_impl_Col_impl_Col_Q0 (a1 : Clo) (x0 : List (ByteArray × Int × Bool × Unit)) (x1 : Int) (x2 : Int) : St := stq 19 [(0, AV.val (Ty.sl (Ty.pair Ty.str (Ty.pair (Ty.int IntKind.i64) (Ty.pair Ty.bool Ty.unit)))) x0), (1, AV.cloV a1), (7, AV.val (Ty.int IntKind.i64) x1), (8, AV.val (Ty.int IntKind.i64) x2)] []
def slices_IndexFunc_impl_Col_impl_Col_Q0_0 (a1 : Clo) (v0_0 : Int) : St := stq 19 [(4, AV.val (Ty.int IntKind.i64) v0_0)] []
def slices_IndexFunc_impl_Col_impl_Col_Q0_1 (a1 : Clo) : St := stq 19 [] []
theorem slices_IndexFunc_impl_Col_impl_Col_SB0 (D : Den ctx) (n : Nat) (a1 : Clo) (m : Nat) (K : Ex → St → Option (Out ctx 96)) (x0 : List (ByteArray × Int × Bool × Unit)) (x1 : Int) (x2 : Int) :
  LQ funcTab D n 96 [.r, .l, .r, .l] (m + 1) (slices_IndexFunc_impl_Col_impl_Col_Q0 a1 x0 x1 x2) K = slices_IndexFunc_impl_Col_impl_Col_b0 D n a1 (fun x0 x1 x2 => LQ funcTab D n 96 [.r, .l, .r, .l] m (slices_IndexFunc_impl_Col_impl_Col_Q0 a1 x0 x1 x2) K) (fun v0_0 => K (Ex.ret) (slices_IndexFunc_impl_Col_impl_Col_Q0_0 a1 v0_0)) (K (Ex.exit 0) (slices_IndexFunc_impl_Col_impl_Col_Q0_1 a1)) x0 x1 x2 := by kernel_rfl
theorem slices_IndexFunc_impl_Col_impl_Col_EL0 (D : Den ctx) (n : Nat) (a1 : Clo) (K : Ex → St → Option (Out ctx 96)) : ∀ (m : Nat) (x0 : List (ByteArray × Int × Bool × Unit)) (x1 : Int) (x2 : Int), LQ funcTab D n 96 [.r, .l, .r, .l] m (slices_IndexFunc_impl_Col_impl_Col_Q0 a1 x0 x1 x2) K = slices_IndexFunc_impl_Col_impl_Col_L0 D n a1 (fun v0_0 => K (Ex.ret) (slices_IndexFunc_impl_Col_impl_Col_Q0_0 a1 v0_0)) (K (Ex.exit 0) (slices_IndexFunc_impl_Col_impl_Col_Q0_1 a1)) m x0 x1 x2
  | 0, x0, x1, x2 => LQ_zero ..
  | m + 1, x0, x1, x2 => by
    have ih : (fun x0 x1 x2 => LQ funcTab D n 96 [.r, .l, .r, .l] m (slices_IndexFunc_impl_Col_impl_Col_Q0 a1 x0 x1 x2) K) = slices_IndexFunc_impl_Col_impl_Col_L0 D n a1 (fun v0_0 => K (Ex.ret) (slices_IndexFunc_impl_Col_impl_Col_Q0_0 a1 v0_0)) (K (Ex.exit 0) (slices_IndexFunc_impl_Col_impl_Col_Q0_1 a1)) m := by funext x0 x1 x2; exact slices_IndexFunc_impl_Col_impl_Col_EL0 D n a1 K m x0 x1 x2
    rw [slices_IndexFunc_impl_Col_impl_Col_SB0]
    rw [ih]; rfl
theorem slices_IndexFunc_impl_Col_impl_Col_X0_0 (D : Den ctx) (n : Nat) (a1 : Clo) (v0_0 : Int) :
  (CQ funcTab D n 96 [] [.r, .l, .r, .l] (lastK funcTab 96)) (Ex.ret) (slices_IndexFunc_impl_Col_impl_Col_Q0_0 a1 v0_0) = slices_IndexFunc_impl_Col_impl_Col_x0_0 D n a1 v0_0 := by kernel_rfl
theorem slices_IndexFunc_impl_Col_impl_Col_X0_1 (D : Den ctx) (n : Nat) (a1 : Clo) :
  (CQ funcTab D n 96 [] [.r, .l, .r, .l] (lastK funcTab 96)) (Ex.exit 0) (slices_IndexFunc_impl_Col_impl_Col_Q0_1 a1) = slices_IndexFunc_impl_Col_impl_Col_x0_1 D n a1 := by kernel_rfl
theorem slices_IndexFunc_impl_Col_impl_Col_ELP0 (D : Den ctx) (n : Nat) (a1 : Clo) (x0 : List (ByteArray × Int × Bool × Unit)) (x1 : Int) (x2 : Int) :
  LQ funcTab D n 96 [.r, .l, .r, .l] n (slices_IndexFunc_impl_Col_impl_Col_Q0 a1 x0 x1 x2) (CQ funcTab D n 96 [] [.r, .l, .r, .l] (lastK funcTab 96)) = slices_IndexFunc_impl_Col_impl_Col_LP0 D n a1 x0 x1 x2 := by
  rw [slices_IndexFunc_impl_Col_impl_Col_EL0]
  simp only [slices_IndexFunc_impl_Col_impl_Col_X0_0, slices_IndexFunc_impl_Col_impl_Col_X0_1]
  rfl
theorem E_slices_IndexFunc_impl_Col_impl_Col (D : Den ctx) (n : Nat) (a0 : List (ByteArray × Int × Bool × Unit)) (a1 : Clo) : rfC funcTab D n 96 (a0, (a1, ())) = F_slices_IndexFunc_impl_Col_impl_Col D n a0 a1 := by
  have h : rfC funcTab D n 96 (a0, (a1, ())) = slices_IndexFunc_impl_Col_impl_Col_e D n a1 (fun x0 x1 x2 => LQ funcTab D n 96 [.r, .l, .r, .l] n (slices_IndexFunc_impl_Col_impl_Col_Q0 a1 x0 x1 x2) (CQ funcTab D n 96 [] [.r, .l, .r, .l] (lastK funcTab 96))) a0 := by kernel_rfl
  rw [h]
  simp only [slices_IndexFunc_impl_Col_impl_Col_ELP0]
  rfl
end Go.G

namespace Go.G
set_option maxRecDepth 100000
set_option maxHeartbeats 0
open Go Go.V
noncomputable def impl_ColAt_1_e (D : Den ctx) (n : Nat) (a0 : ByteArray × Int × Bool × Unit) (a1 : ByteArray) : Option ((Bool × Unit) × Unit) := some ((List.beq (ByteArray.toList (Prod.fst a0)) (ByteArray.toList a1), ()), ())
noncomputable def F_impl_ColAt_1 (D : Den ctx) (n : Nat) (a0 : ByteArray × Int × Bool × Unit) (a1 : ByteArray) : Option ((Bool × Unit) × Unit) := impl_ColAt_1_e D n a0 a1
theorem E_impl_ColAt_1 (D : Den ctx) (n : Nat) (a0 : ByteArray × Int × Bool × Unit) (a1 : ByteArray) : rfC funcTab D n 97 (a0, (a1, ())) = F_impl_ColAt_1 D n a0 a1 := by kernel_rfl
end Go.G

namespace Go.G
set_option maxRecDepth 100000
set_option maxHeartbeats 0
open Go Go.V
noncomputable def spec_Project_b0 (D : Den ctx) (n : Nat) (go : List (Int × Int × ByteArray × Unit) → List Int → Int → List (Int × Int × ByteArray × Unit) → Option ((List (Int × Int × ByteArray × Unit) × Unit) × Unit)) (K0 : List (Int × Int × ByteArray × Unit) → Option ((List (Int × Int × ByteArray × Unit) × Unit) × Unit)) (x0 : List (Int × Int × ByteArray × Unit)) (x1 : List Int) (x2 : Int) (x3 : List (Int × Int × ByteArray × Unit)) : Option ((List (Int × Int × ByteArray × Unit) × Unit) × Unit) := br (decide (x2 < (↑(List.length x1) : Int))) (br (decide (0 ≤ x2) && decide (x2 < (↑(List.length x1) : Int))) (bindD (C_spec_l1In D (List.getD x1 (Int.toNat x2) 0) 0 (IntKind.wrap IntKind.i64 ((↑(List.length x0) : Int) - 1))) fun b ↦ br (Prod.fst (Prod.fst b)) (br (decide (0 ≤ x2) && decide (x2 < (↑(List.length x1) : Int))) (br (decide (0 ≤ List.getD x1 (Int.toNat x2) 0) && decide (List.getD x1 (Int.toNat x2) 0 < (↑(List.length x0) : Int))) (br (decide (List.length x3 + 1 ≤ bound)) (go x0 x1 (IntKind.wrap IntKind.i64 (x2 + 1)) (x3 ++ [List.getD x0 (Int.toNat (List.getD x1 (Int.toNat x2) 0)) (0, 0, ByteArray.empty, ())])) none) none) none) (go x0 x1 (IntKind.wrap IntKind.i64 (x2 + 1)) x3)) none) (K0 x3)
noncomputable def spec_Project_L0 (D : Den ctx) (n : Nat) (K0 : List (Int × Int × ByteArray × Unit) → Option ((List (Int × Int × ByteArray × Unit) × Unit) × Unit)) : Nat → (List (Int × Int × ByteArray × Unit)) → (List Int) → (Int) → (List (Int × Int × ByteArray × Unit)) → Option ((List (Int × Int × ByteArray × Unit) × Unit) × Unit) | 0 => (fun x0 x1 x2 x3 => none) | m + 1 => (fun x0 x1 x2 x3 => spec_Project_b0 D n (spec_Project_L0 D n K0 m) K0 x0 x1 x2 x3)
noncomputable def spec_Project_x0_0 (D : Den ctx) (n : Nat) (v0_0 : List (Int × Int × ByteArray × Unit)) : Option ((List (Int × Int × ByteArray × Unit) × Unit) × Unit) := some ((v0_0, ()), ())
noncomputable def spec_Project_LP0 (D : Den ctx) (n : Nat) : (List (Int × Int × ByteArray × Unit)) → (List Int) → (Int) → (List (Int × Int × ByteArray × Unit)) → Option ((List (Int × Int × ByteArray × Unit) × Unit) × Unit) := (fun x0 x1 x2 x3 => spec_Project_L0 D n (fun v0_0 => spec_Project_x0_0 D n v0_0) n x0 x1 x2 x3)
noncomputable def spec_Project_e (D : Den ctx) (n : Nat) (lp0 : List (Int × Int × ByteArray × Unit) → List Int → Int → List (Int × Int × ByteArray × Unit) → Option ((List (Int × Int × ByteArray × Unit) × Unit) × Unit)) (a0 : List (Int × Int × ByteArray × Unit)) (a1 : List Int) : Option ((List (Int × Int × ByteArray × Unit) × Unit) × Unit) := lp0 a0 a1 0 []
noncomputable def F_spec_Project (D : Den ctx) (n : Nat) (a0 : List (Int × Int × ByteArray × Unit)) (a1 : List Int) : Option ((List (Int × Int × ByteArray × Unit) × Unit) × Unit) := spec_Project_e D n (spec_Project_LP0 D n) a0 a1
def spec_Project_Q0 (x0 : List (Int × Int × ByteArray × Unit)) (x1 : List Int) (x2 : Int) (x3 : List (Int × Int × ByteArray × Unit)) : St := stq 33 [(0, AV.val (Ty.sl (Ty.pair (Ty.int IntKind.i64) (Ty.pair (Ty.int IntKind.i64) (Ty.pair Ty.str Ty.unit)))) x0), (1, AV.val (Ty.sl (Ty.int IntKind.i64)) x1), (5, AV.brw 5 [] 0), (6, AV.val (Ty.int IntKind.i64) x2)] [(5, Root.mk (Ty.sl (Ty.pair (Ty.int IntKind.i64) (Ty.pair (Ty.int IntKind.i64) (Ty.pair Ty.str Ty.unit)))) (Mk.own 0 (Mk.pr Mk.no (Mk.pr Mk.no (Mk.pr Mk.no Mk.no)))) x3 false)]
def spec_Project_Q0_0 (v0_0 : List (Int × Int × ByteArray × Unit)) : St := stq 33 [(5, AV.brw 5 [] 0)] [(5, Root.mk (Ty.sl (Ty.pair (Ty.int IntKind.i64) (Ty.pair (Ty.int IntKind.i64) (Ty.pair Ty.str Ty.unit)))) (Mk.own 0 (Mk.pr Mk.no (Mk.pr Mk.no (Mk.pr Mk.no Mk.no)))) v0_0 false)]
theorem spec_Project_SB0 (D : Den ctx) (n : Nat) (m : Nat) (K : Ex → St → Option (Out ctx 98)) (x0 : List (Int × Int × ByteArray × Unit)) (x1 : List Int) (x2 : Int) (x3 : List (Int × Int × ByteArray × Unit)) :
  LQ funcTab D n 98 [.r, .r, .l, .r, .l] (m + 1) (spec_Project_Q0 x0 x1 x2 x3) K = spec_Project_b0 D n (fun x0 x1 x2 x3 => LQ funcTab D n 98 [.r, .r, .l, .r, .l] m (spec_Project_Q0 x0 x1 x2 x3) K) (fun v0_0 => K (Ex.exit 0) (spec_Project_Q0_0 v0_0)) x0 x1 x2 x3 := by kernel_rfl
theorem spec_Project_EL0 (D : Den ctx) (n : Nat) (K : Ex → St → Option (Out ctx 98)) : ∀ (m : Nat) (x0 : List (Int × Int × ByteArray × Unit)) (x1 : List Int) (x2 : Int) (x3 : List (Int × Int × ByteArray × Unit)), LQ funcTab D n 98 [.r, .r, .l, .r, .l] m (spec_Project_Q0 x0 x1 x2 x3) K = spec_Project_L0 D n (fun v0_0 => K (Ex.exit 0) (spec_Project_Q0_0 v0_0)) m x0 x1 x2 x3
  | 0, x0, x1, x2, x3 => LQ_zero ..
  | m + 1, x0, x1, x2, x3 => by
    have ih : (fun x0 x1 x2 x3 => LQ funcTab D n 98 [.r, .r, .l, .r, .l] m (spec_Project_Q0 x0 x1 x2 x3) K) = spec_Project_L0 D n (fun v0_0 => K (Ex.exit 0) (spec_Project_Q0_0 v0_0)) m := by funext x0 x1 x2 x3; exact spec_Project_EL0 D n K m x0 x1 x2 x3
    rw [spec_Project_SB0]
    rw [ih]; rfl
theorem spec_Project_X0_0 (D : Den ctx) (n : Nat) (v0_0 : List (Int × Int × ByteArray × Unit)) :
  (CQ funcTab D n 98 [] [.r, .r, .l, .r, .l] (lastK funcTab 98)) (Ex.exit 0) (spec_Project_Q0_0 v0_0) = spec_Project_x0_0 D n v0_0 := by kernel_rfl
theorem spec_Project_ELP0 (D : Den ctx) (n : Nat) (x0 : List (Int × Int × ByteArray × Unit)) (x1 : List Int) (x2 : Int) (x3 : List (Int × Int × ByteArray × Unit)) :
  LQ funcTab D n 98 [.r, .r, .l, .r, .l] n (spec_Project_Q0 x0 x1 x2 x3) (CQ funcTab D n 98 [] [.r, .r, .l, .r, .l] (lastK funcTab 98)) = spec_Project_LP0 D n x0 x1 x2 x3 := by
  rw [spec_Project_EL0]
  simp only [spec_Project_X0_0]
  rfl
theorem E_spec_Project (D : Den ctx) (n : Nat) (a0 : List (Int × Int × ByteArray × Unit)) (a1 : List Int) : rfC funcTab D n 98 (a0, (a1, ())) = F_spec_Project D n a0 a1 := by
  have h : rfC funcTab D n 98 (a0, (a1, ())) = spec_Project_e D n (fun x0 x1 x2 x3 => LQ funcTab D n 98 [.r, .r, .l, .r, .l] n (spec_Project_Q0 x0 x1 x2 x3) (CQ funcTab D n 98 [] [.r, .r, .l, .r, .l] (lastK funcTab 98))) a0 a1 := by kernel_rfl
  rw [h]
  simp only [spec_Project_ELP0]
  rfl
end Go.G

namespace Go.G
set_option maxRecDepth 100000
set_option maxHeartbeats 0
open Go Go.V
noncomputable def slices_ContainsFunc_impl_Value_impl_Value_e (D : Den ctx) (n : Nat) (a1 : Clo) (a0 : List (Int × Int × ByteArray × Unit)) : Option ((Bool × Unit) × Unit) := bindD (C_slices_IndexFunc_impl_Value_impl_Valuex D a0 a1) fun b ↦ some ((decide (Prod.fst (Prod.fst b) ≥ 0), ()), ())
noncomputable def F_slices_ContainsFunc_impl_Value_impl_Value (D : Den ctx) (n : Nat) (a0 : List (Int × Int × ByteArray × Unit)) (a1 : Clo) : Option ((Bool × Unit) × Unit) := slices_ContainsFunc_impl_Value_impl_Value_e D n a1 a0
theorem E_slices_ContainsFunc_impl_Value_impl_Value (D : Den ctx) (n : Nat) (a0 : List (Int × Int × ByteArray × Unit)) (a1 : Clo) : rfC funcTab D n 99 (a0, (a1, ())) = F_slices_ContainsFunc_impl_Value_impl_Value D n a0 a1 := by kernel_rfl
end Go.G

namespace Go.G
set_option maxRecDepth 100000
set_option maxHeartbeats 0
open Go Go.V
noncomputable def laws_szValue_e (D : Den ctx) (n : Nat) (a0 : Int × Int × ByteArray × Unit) (a1 : Int) : Option ((Int × Unit) × Unit) := br (decide (IntKind.wrap IntKind.i64 (a1 - (↑(ByteArray.size (Prod.fst (Prod.snd (Prod.snd a0)))) : Int)) < 0)) (some ((-1, ()), ())) (some ((IntKind.wrap IntKind.i64 (a1 - (↑(ByteArray.size (Prod.fst (Prod.snd (Prod.snd a0)))) : Int)), ()), ()))
noncomputable def F_laws_szValue (D : Den ctx) (n : Nat) (a0 : Int × Int × ByteArray × Unit) (a1 : Int) : Option ((Int × Unit) × Unit) := laws_szValue_e D n a0 a1
theorem E_laws_szValue (D : Den ctx) (n : Nat) (a0 : Int × Int × ByteArray × Unit) (a1 : Int) : rfC funcTab D n 101 (a0, (a1, ())) = F_laws_szValue D n a0 a1 := by kernel_rfl
end Go.G

namespace Go.G
set_option maxRecDepth 100000
set_option maxHeartbeats 0
open Go Go.V
noncomputable def laws_toValue_e (D : Den ctx) (n : Nat) (a0 : Int × Int × ByteArray × Unit) : Option (((Int × Int × ByteArray × Unit) × Unit) × Unit) := some (((Prod.fst a0, Prod.fst (Prod.snd a0), Prod.fst (Prod.snd (Prod.snd a0)), ()), ()), ())
noncomputable def F_laws_toValue (D : Den ctx) (n : Nat) (a0 : Int × Int × ByteArray × Unit) : Option (((Int × Int × ByteArray × Unit) × Unit) × Unit) := laws_toValue_e D n a0
theorem E_laws_toValue (D : Den ctx) (n : Nat) (a0 : Int × Int × ByteArray × Unit) : rfC funcTab D n 102 (a0, ()) = F_laws_toValue D n a0 := by kernel_rfl
end Go.G


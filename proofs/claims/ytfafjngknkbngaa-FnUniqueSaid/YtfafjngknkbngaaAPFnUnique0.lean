import Derived.Test.YtfafjngknkbngaaAV3
set_option linter.unusedVariables false
set_option linter.unusedSimpArgs false
set_option linter.unusedSectionVars false
namespace Go.G
open Go Go.V
abbrev DX:=Den ctx
abbrev tVal:=Int×Int×ByteArray×Unit
abbrev tVals:=List tVal
abbrev tRows:=List tVals
abbrev tIx:=ByteArray×List Int×Bool×Unit
abbrev tIxs:=List tIx
abbrev tCol:=ByteArray×Int×Bool×Unit
abbrev tCols:=List tCol
abbrev tSch:=tCols×List Int×tIxs×Unit
abbrev tCur:=List Int×Int×Int×Unit
abbrev avI:=AV.val (Ty.int IntKind.i64)
abbrev yI:=Ty.int IntKind.i64
abbrev yC:=Ty.pair Ty.str (Ty.pair yI (Ty.pair Ty.bool Ty.unit))
abbrev yX:=Ty.pair Ty.str (Ty.pair (Ty.sl yI) (Ty.pair Ty.bool Ty.unit))
abbrev yV:=Ty.pair yI (Ty.pair yI (Ty.pair Ty.str Ty.unit))
abbrev yS:=Ty.pair (Ty.sl yC) (Ty.pair (Ty.sl yI) (Ty.pair (Ty.sl yX) Ty.unit))
end Go.G
namespace Go.G
open Go Go.V
noncomputable def C_laws_FnUnique (D:Den ctx) (a0:List Int):Option ((Bool×Unit)×Unit):=D 10 (a0,())
noncomputable def C_spec_SchemaOk (D:Den ctx) (a0:tSch):Option ((Bool×Unit)×Unit):=D 16 (a0,())
noncomputable def C_impl_SchemaOk (D:Den ctx) (a0:tSch):Option ((Bool×Unit)×Unit):=D 18 (a0,())
noncomputable def C_laws_big (D:Den ctx) (a0:List Int):Option ((Bool×Unit)×Unit):=D 20 (a0,())
noncomputable def C_impl_RowOk (D:Den ctx) (a0:tSch) (a1:tVals):Option ((Bool×Unit)×Unit):=D 26 (a0,(a1,()))
noncomputable def C_spec_RowOk (D:Den ctx) (a0:tSch) (a1:tVals):Option ((Bool×Unit)×Unit):=D 27 (a0,(a1,()))
noncomputable def C_impl_ColNameOk (D:Den ctx) (a0:ByteArray):Option ((Bool×Unit)×Unit):=D 28 (a0,())
noncomputable def C_spec_ColNameOk (D:Den ctx) (a0:ByteArray):Option ((Bool×Unit)×Unit):=D 29 (a0,())
noncomputable def C_impl_ColAt (D:Den ctx) (a0:tSch) (a1:ByteArray):Option ((Int×Unit)×Unit):=D 30 (a0,(a1,()))
noncomputable def C_spec_ColAt (D:Den ctx) (a0:tSch) (a1:ByteArray):Option ((Int×Unit)×Unit):=D 31 (a0,(a1,()))
noncomputable def C_laws_sameTuple (D:Den ctx) (a0:tVals) (a1:tVals):Option ((Bool×Unit)×Unit):=D 32 (a0,(a1,()))
noncomputable def C_impl_KeyOfRow (D:Den ctx) (a0:tSch) (a1:tVals):Option ((tVals×Unit)×Unit):=D 33 (a0,(a1,()))
noncomputable def C_spec_KeyOfRow (D:Den ctx) (a0:tSch) (a1:tVals):Option ((tVals×Unit)×Unit):=D 34 (a0,(a1,()))
noncomputable def C_spec_RelOk (D:Den ctx) (a0:(tSch)×tRows×Unit):Option ((Bool×Unit)×Unit):=D 48 (a0,())
noncomputable def C_impl_RelOk (D:Den ctx) (a0:(tSch)×tRows×Unit):Option ((Bool×Unit)×Unit):=D 49 (a0,())
noncomputable def C_spec_DrawRelation (D:Den ctx) (a0:List Int):Option ((((tSch)×tRows×Unit)×tVals×Unit)×Unit):=D 50 (a0,())
noncomputable def C_spec_Replace (D:Den ctx) (a0:(tSch)×tRows×Unit) (a1:tVals):Option ((((tSch)×tRows×Unit)×Int×Unit)×Unit):=D 52 (a0,(a1,()))
noncomputable def C_impl_Insert (D:Den ctx) (a0:(tSch)×tRows×Unit) (a1:tVals):Option ((((tSch)×tRows×Unit)×Int×Unit)×Unit):=D 55 (a0,(a1,()))
noncomputable def C_impl_Project (D:Den ctx) (a0:tVals) (a1:List Int):Option ((tVals×Unit)×Unit):=D 56 (a0,(a1,()))
noncomputable def C_laws_hasNull (D:Den ctx) (a0:tVals):Option ((Bool×Unit)×Unit):=D 57 (a0,())
noncomputable def C_spec_RelNew (D:Den ctx) (a0:tSch):Option ((((tSch)×tRows×Unit)×Bool×Unit)×Unit):=D 60 (a0,())
noncomputable def C_spec_Insert (D:Den ctx) (a0:(tSch)×tRows×Unit) (a1:tVals):Option ((((tSch)×tRows×Unit)×Int×Unit)×Unit):=D 63 (a0,(a1,()))
noncomputable def C_spec_l1In (D:Den ctx) (a0:Int) (a1:Int) (a2:Int):Option ((Bool×Unit)×Unit):=D 73 (a0,(a1,(a2,())))
noncomputable def C_spec_l19Places (D:Den ctx) (a0:tSch) (a1:List Int) (a2:Int):Option ((Bool×Unit)×Unit):=D 74 (a0,(a1,(a2,())))
noncomputable def C_spec_l19Indexes (D:Den ctx) (a0:tSch):Option ((Bool×Unit)×Unit):=D 75 (a0,())
noncomputable def C_impl_from (D:Den ctx) (a0:Int) (a1:Int) (a2:Int):Option ((Bool×Unit)×Unit):=D 79 (a0,(a1,(a2,())))
noncomputable def C_impl_placesOk (D:Den ctx) (a0:tSch) (a1:List Int) (a2:Int):Option ((Bool×Unit)×Unit):=D 80 (a0,(a1,(a2,())))
noncomputable def C_slices_ContainsFunc_impl_Index_impl_Index (D:Den ctx) (a0:tIxs) (a1:Clo):Option ((Bool×Unit)×Unit):=D 81 (a0,(a1,()))
noncomputable def C_impl_SchemaOk_1 (D:Den ctx) (a0:ByteArray×List Int×Bool×Unit) (a1:ByteArray×List Int×Bool×Unit):Option ((Bool×Unit)×Unit):=D 82 (a0,(a1,()))
noncomputable def C_slices_ContainsFunc_int_int (D:Den ctx) (a0:List Int) (a1:Clo):Option ((Bool×Unit)×Unit):=D 83 (a0,(a1,()))
noncomputable def C_impl_SchemaOk_2 (D:Den ctx) (a0:Int) (a1:tSch):Option ((Bool×Unit)×Unit):=D 84 (a0,(a1,()))
noncomputable def C_spec_l1New (D:Den ctx) (a0:List Int):Option ((tCur×Unit)×Unit):=D 88 (a0,())
noncomputable def C_spec_l19DrawRow (D:Den ctx) (a0:List Int×Int×Int×Unit) (a1:tSch):Option ((tVals×Unit)×tCur×Unit):=D 90 (a0,(a1,()))
noncomputable def C_spec_l1Below (D:Den ctx) (a0:List Int×Int×Int×Unit) (a1:Int):Option ((Int×Unit)×tCur×Unit):=D 91 (a0,(a1,()))
noncomputable def C_spec_l1Pick (D:Den ctx) (a0:List Int×Int×Int×Unit) (a1:List ByteArray):Option ((ByteArray×Unit)×tCur×Unit):=D 93 (a0,(a1,()))
noncomputable def C_impl_ValueOk (D:Den ctx) (a0:Int×Int×ByteArray×Unit):Option ((Bool×Unit)×Unit):=D 94 (a0,())
noncomputable def C_spec_ValueOk (D:Den ctx) (a0:Int×Int×ByteArray×Unit):Option ((Bool×Unit)×Unit):=D 95 (a0,())
noncomputable def C_slices_IndexFunc_impl_Col_impl_Col (D:Den ctx) (a0:tCols) (a1:Clo):Option ((Int×Unit)×Unit):=D 96 (a0,(a1,()))
noncomputable def C_impl_ColAt_1 (D:Den ctx) (a0:ByteArray×Int×Bool×Unit) (a1:ByteArray):Option ((Bool×Unit)×Unit):=D 97 (a0,(a1,()))
noncomputable def C_spec_Project (D:Den ctx) (a0:tVals) (a1:List Int):Option ((tVals×Unit)×Unit):=D 98 (a0,(a1,()))
noncomputable def C_spec_TupleLess (D:Den ctx) (a0:tVals) (a1:tVals):Option ((Bool×Unit)×Unit):=D 113 (a0,(a1,()))
noncomputable def C_spec_l21Clash (D:Den ctx) (a0:tSch) (a1:tVals) (a2:tVals):Option ((Bool×Unit)×Unit):=D 114 (a0,(a1,(a2,())))
noncomputable def C_impl_TupleLess (D:Den ctx) (a0:tVals) (a1:tVals):Option ((Bool×Unit)×Unit):=D 115 (a0,(a1,()))
noncomputable def C_slices_ContainsFunc_impl_Value_impl_Valuex (D:Den ctx) (a0:tRows) (a1:Clo):Option ((Bool×Unit)×Unit):=D 116 (a0,(a1,()))
noncomputable def C_impl_RelOk_1 (D:Den ctx) (a0:tVals) (a1:(tSch)×tRows×Unit) (a2:tVals):Option ((Bool×Unit)×Unit):=D 117 (a0,(a1,(a2,())))
noncomputable def C_impl_clash (D:Den ctx) (a0:tSch) (a1:tVals) (a2:tVals):Option ((Bool×Unit)×Unit):=D 118 (a0,(a1,(a2,())))
noncomputable def C_spec_l21DrawRight (D:Den ctx) (a0:List Int×Int×Int×Unit):Option ((((tSch)×tRows×Unit)×Unit)×tCur×Unit):=D 119 (a0,())
noncomputable def C_spec_l21DrawRow (D:Den ctx) (a0:List Int×Int×Int×Unit) (a1:(tSch)×tRows×Unit):Option ((tVals×Unit)×tCur×Unit):=D 120 (a0,(a1,()))
noncomputable def C_impl_copyRelation (D:Den ctx) (a0:(tSch)×tRows×Unit):Option ((((tSch)×tRows×Unit)×Unit)×Unit):=D 121 (a0,())
noncomputable def C_impl_keyAt (D:Den ctx) (a0:(tSch)×tRows×Unit) (a1:tVals):Option ((Int×Unit)×Unit):=D 122 (a0,(a1,()))
noncomputable def C_slices_Clone_impl_Value_impl_Value (D:Den ctx) (a0:tVals):Option ((tVals×Unit)×Unit):=D 123 (a0,())
noncomputable def C_spec_l21Copy (D:Den ctx) (a0:(tSch)×tRows×Unit):Option ((((tSch)×tRows×Unit)×Unit)×Unit):=D 124 (a0,())
noncomputable def C_spec_l21At (D:Den ctx) (a0:(tSch)×tRows×Unit) (a1:tVals):Option ((Int×Unit)×Unit):=D 125 (a0,(a1,()))
noncomputable def C_spec_l21Others (D:Den ctx) (a0:(tSch)×tRows×Unit) (a1:tVals) (a2:Int):Option ((Bool×Unit)×Unit):=D 126 (a0,(a1,(a2,())))
noncomputable def C_impl_Insert_1 (D:Den ctx) (a0:tVals) (a1:(tSch)×tRows×Unit) (a2:tVals):Option ((Bool×Unit)×Unit):=D 129 (a0,(a1,(a2,())))
noncomputable def C_slices_IndexFunc_impl_Value_impl_Value (D:Den ctx) (a0:tRows) (a1:Clo):Option ((Int×Unit)×Unit):=D 130 (a0,(a1,()))
noncomputable def C_impl_Insert_2 (D:Den ctx) (a0:tVals) (a1:tVals) (a2:(tSch)×tRows×Unit):Option ((Bool×Unit)×Unit):=D 131 (a0,(a1,(a2,())))
noncomputable def C_spec_l19Copy (D:Den ctx) (a0:tSch):Option (((tSch)×Unit)×Unit):=D 134 (a0,())
noncomputable def C_impl_copySchema (D:Den ctx) (a0:tSch):Option (((tSch)×Unit)×Unit):=D 135 (a0,())
noncomputable def C_spec_l21Rows (D:Den ctx) (a0:tRows):Option ((tRows×Unit)×Unit):=D 138 (a0,())
noncomputable def C_slices_Contains_int_int (D:Den ctx) (a0:List Int) (a1:Int):Option ((Bool×Unit)×Unit):=D 147 (a0,(a1,()))
noncomputable def C_slices_IndexFunc_impl_Index_impl_Index (D:Den ctx) (a0:tIxs) (a1:Clo):Option ((Int×Unit)×Unit):=D 148 (a0,(a1,()))
noncomputable def C_slices_IndexFunc_int_int (D:Den ctx) (a0:List Int) (a1:Clo):Option ((Int×Unit)×Unit):=D 149 (a0,(a1,()))
noncomputable def C_spec_l19DrawRight (D:Den ctx) (a0:List Int×Int×Int×Unit):Option (((tSch)×Unit)×tCur×Unit):=D 152 (a0,())
noncomputable def C_spec_l1PickInt (D:Den ctx) (a0:List Int×Int×Int×Unit) (a1:List Int):Option ((Int×Unit)×tCur×Unit):=D 153 (a0,(a1,()))
noncomputable def C_spec_l1Once (D:Den ctx) (a0:List Int×Int×Int×Unit) (a1:Int):Option ((Bool×Unit)×tCur×Unit):=D 154 (a0,(a1,()))
noncomputable def C_spec_l17DrawOf (D:Den ctx) (a0:List Int×Int×Int×Unit) (a1:Int):Option ((tVal×Unit)×tCur×Unit):=D 155 (a0,(a1,()))
noncomputable def C_spec_l1Byte (D:Den ctx) (a0:List Int×Int×Int×Unit):Option ((Int×Unit)×tCur×Unit):=D 156 (a0,())
noncomputable def C_spec_ValueSame (D:Den ctx) (a0:Int×Int×ByteArray×Unit) (a1:Int×Int×ByteArray×Unit):Option ((Bool×Unit)×Unit):=D 162 (a0,(a1,()))
noncomputable def C_spec_ValueLess (D:Den ctx) (a0:Int×Int×ByteArray×Unit) (a1:Int×Int×ByteArray×Unit):Option ((Bool×Unit)×Unit):=D 163 (a0,(a1,()))
noncomputable def C_spec_l18Same (D:Den ctx) (a0:tVals) (a1:tVals):Option ((Bool×Unit)×Unit):=D 164 (a0,(a1,()))
noncomputable def C_spec_l21Some (D:Den ctx) (a0:tVals):Option ((Bool×Unit)×Unit):=D 165 (a0,())
noncomputable def C_slices_CompareFunc_impl_Value_impl_Value_impl_Value_impl_Value (D:Den ctx) (a0:tVals) (a1:tVals) (a2:Clo):Option ((Int×Unit)×Unit):=D 166 (a0,(a1,(a2,())))
noncomputable def C_impl_byValue (D:Den ctx) (a0:Int×Int×ByteArray×Unit) (a1:Int×Int×ByteArray×Unit):Option ((Int×Unit)×Unit):=D 167 (a0,(a1,()))
noncomputable def C_impl_clash_1 (D:Den ctx) (a0:ByteArray×List Int×Bool×Unit) (a1:tVals) (a2:tVals):Option ((Bool×Unit)×Unit):=D 168 (a0,(a1,(a2,())))
noncomputable def C_slices_Contains_impl_Value_impl_Value (D:Den ctx) (a0:tVals) (a1:Int×Int×ByteArray×Unit):Option ((Bool×Unit)×Unit):=D 169 (a0,(a1,()))
noncomputable def C_slices_Equal_impl_Value_impl_Value (D:Den ctx) (a0:tVals) (a1:tVals):Option ((Bool×Unit)×Unit):=D 170 (a0,(a1,()))
noncomputable def C_spec_Remove (D:Den ctx) (a0:(tSch)×tRows×Unit) (a1:tVals):Option ((((tSch)×tRows×Unit)×Int×Unit)×Unit):=D 171 (a0,(a1,()))
noncomputable def C_impl_copyTuples (D:Den ctx) (a0:tRows):Option ((tRows×Unit)×Unit):=D 172 (a0,())
noncomputable def C_impl_keyAt_1 (D:Den ctx) (a0:tVals) (a1:(tSch)×tRows×Unit) (a2:tVals):Option ((Bool×Unit)×Unit):=D 173 (a0,(a1,(a2,())))
noncomputable def C_slices_Clone_impl_Col_impl_Col (D:Den ctx) (a0:tCols):Option ((tCols×Unit)×Unit):=D 176 (a0,())
noncomputable def C_slices_Clone_int_int (D:Den ctx) (a0:List Int):Option ((List Int×Unit)×Unit):=D 177 (a0,())
noncomputable def C_slices_Index_int_int (D:Den ctx) (a0:List Int) (a1:Int):Option ((Int×Unit)×Unit):=D 186 (a0,(a1,()))
noncomputable def C_strings_Compare (D:Den ctx) (a0:ByteArray) (a1:ByteArray):Option ((Int×Unit)×Unit):=D 187 (a0,(a1,()))
noncomputable def C_slices_Index_impl_Value_impl_Value (D:Den ctx) (a0:tVals) (a1:Int×Int×ByteArray×Unit):Option ((Int×Unit)×Unit):=D 188 (a0,(a1,()))
noncomputable def C_slices_Insert_impl_Value_impl_Value (D:Den ctx) (a0:tRows) (a1:Int) (a2:tRows):Option ((tRows×Unit)×Unit):=D 132 (a0,(a1,(a2,())))
noncomputable def C_slices_Delete_impl_Value_impl_Value (D:Den ctx) (a0:tRows) (a1:Int) (a2:Int):Option ((tRows×Unit)×Unit):=D 139 (a0,(a1,(a2,())))
end Go.G

namespace Go.G
set_option maxRecDepth 100000
set_option maxHeartbeats 0
open Go Go.V
noncomputable section
def laws_FnUnique_b2 (D:DX)(n:Nat) (go:Int→Int→Int→(tSch)×tRows×Unit→ByteArray×List Int×Bool×Unit→Option ((Bool×Unit)×Unit)) (K0:Bool→Int→Int→(tSch)×tRows×Unit→ByteArray×List Int×Bool×Unit→Option ((Bool×Unit)×Unit)) (K1:Int→Int→(tSch)×tRows×Unit→ByteArray×List Int×Bool×Unit→Option ((Bool×Unit)×Unit)) (x2_0:Int) (x2_1:Int) (x2_2:Int) (x2_3:(tSch)×tRows×Unit) (x2_4:ByteArray×List Int×Bool×Unit):Option ((Bool×Unit)×Unit):=br (decide (x2_2<x2_1)) (br (decide (0≤x2_1)&&decide (x2_1<(↑(List.length (Prod.fst (Prod.snd x2_3))):Int))) (bindD (C_impl_Project D (List.getD (Prod.fst (Prod.snd x2_3)) (Int.toNat x2_1) []) (Prod.fst (Prod.snd x2_4))) fun b↦br (decide (0≤x2_2)&&decide (x2_2<(↑(List.length (Prod.fst (Prod.snd x2_3))):Int))) (bindD (C_impl_Project D (List.getD (Prod.fst (Prod.snd x2_3)) (Int.toNat x2_2) []) (Prod.fst (Prod.snd x2_4))) fun b_1↦bindD (C_laws_sameTuple D (Prod.fst (Prod.fst b)) (Prod.fst (Prod.fst b_1))) fun b_2↦br (Prod.fst (Prod.fst b_2)) (bindD (C_laws_hasNull D (Prod.fst (Prod.fst b))) fun b↦br (!Prod.fst (Prod.fst b)) (K0 false x2_0 x2_1 x2_3 x2_4) (go x2_0 x2_1 (IntKind.wrap IntKind.i64 (x2_2+1)) x2_3 x2_4)) (go x2_0 x2_1 (IntKind.wrap IntKind.i64 (x2_2+1)) x2_3 x2_4)) none) none) (K1 x2_0 x2_1 x2_3 x2_4)
def laws_FnUnique_L2 (D:DX)(n:Nat) (K0:Bool→Int→Int→(tSch)×tRows×Unit→ByteArray×List Int×Bool×Unit→Option ((Bool×Unit)×Unit)) (K1:Int→Int→(tSch)×tRows×Unit→ByteArray×List Int×Bool×Unit→Option ((Bool×Unit)×Unit)):Nat→(Int)→(Int)→(Int)→((tSch)×tRows×Unit)→tIx→Option ((Bool×Unit)×Unit) | 0=>(fun x2_0 x2_1 x2_2 x2_3 x2_4=>none) | m+1=>(fun x2_0 x2_1 x2_2 x2_3 x2_4=>laws_FnUnique_b2 D n (laws_FnUnique_L2 D n K0 K1 m) K0 K1 x2_0 x2_1 x2_2 x2_3 x2_4)
def laws_FnUnique_x2_0 (D:DX)(n:Nat) (go:Int→Int→(tSch)×tRows×Unit→ByteArray×List Int×Bool×Unit→Option ((Bool×Unit)×Unit)) (K0:Int→(tSch)×tRows×Unit→Option ((Bool×Unit)×Unit)) (K1:Bool→Int→(tSch)×tRows×Unit→Option ((Bool×Unit)×Unit)) (v0_0:Bool) (v0_1:Int) (v0_2:Int) (v0_3:(tSch)×tRows×Unit) (v0_4:ByteArray×List Int×Bool×Unit):Option ((Bool×Unit)×Unit):=K1 v0_0 v0_1 v0_3
def laws_FnUnique_x2_1 (D:DX)(n:Nat) (go:Int→Int→(tSch)×tRows×Unit→ByteArray×List Int×Bool×Unit→Option ((Bool×Unit)×Unit)) (K0:Int→(tSch)×tRows×Unit→Option ((Bool×Unit)×Unit)) (K1:Bool→Int→(tSch)×tRows×Unit→Option ((Bool×Unit)×Unit)) (v1_0:Int) (v1_1:Int) (v1_2:(tSch)×tRows×Unit) (v1_3:ByteArray×List Int×Bool×Unit):Option ((Bool×Unit)×Unit):=go v1_0 (IntKind.wrap IntKind.i64 (v1_1+1)) v1_2 v1_3
def laws_FnUnique_LP2 (D:DX)(n:Nat) (go:Int→Int→(tSch)×tRows×Unit→ByteArray×List Int×Bool×Unit→Option ((Bool×Unit)×Unit)) (K0:Int→(tSch)×tRows×Unit→Option ((Bool×Unit)×Unit)) (K1:Bool→Int→(tSch)×tRows×Unit→Option ((Bool×Unit)×Unit)):(Int)→(Int)→(Int)→((tSch)×tRows×Unit)→tIx→Option ((Bool×Unit)×Unit):=(fun x2_0 x2_1 x2_2 x2_3 x2_4=>laws_FnUnique_L2 D n (fun v0_0 v0_1 v0_2 v0_3 v0_4=>laws_FnUnique_x2_0 D n go K0 K1 v0_0 v0_1 v0_2 v0_3 v0_4) (fun v1_0 v1_1 v1_2 v1_3=>laws_FnUnique_x2_1 D n go K0 K1 v1_0 v1_1 v1_2 v1_3) n x2_0 x2_1 x2_2 x2_3 x2_4)
def laws_FnUnique_b1 (D:DX)(n:Nat) (go:Int→Int→(tSch)×tRows×Unit→ByteArray×List Int×Bool×Unit→Option ((Bool×Unit)×Unit)) (K0:Int→(tSch)×tRows×Unit→Option ((Bool×Unit)×Unit)) (K1:Bool→Int→(tSch)×tRows×Unit→Option ((Bool×Unit)×Unit)) (lp2:Int→Int→Int→(tSch)×tRows×Unit→ByteArray×List Int×Bool×Unit→Option ((Bool×Unit)×Unit)) (x1_0:Int) (x1_1:Int) (x1_2:(tSch)×tRows×Unit) (x1_3:ByteArray×List Int×Bool×Unit):Option ((Bool×Unit)×Unit):=br (bif decide (x1_1<(↑(List.length (Prod.fst (Prod.snd x1_2))):Int)) then Prod.fst (Prod.snd (Prod.snd x1_3)) else false) (lp2 x1_0 x1_1 0 x1_2 x1_3) (K0 x1_0 x1_2)
def laws_FnUnique_L1 (D:DX)(n:Nat) (K0:Int→(tSch)×tRows×Unit→Option ((Bool×Unit)×Unit)) (K1:Bool→Int→(tSch)×tRows×Unit→Option ((Bool×Unit)×Unit)):Nat→(Int)→(Int)→((tSch)×tRows×Unit)→tIx→Option ((Bool×Unit)×Unit) | 0=>(fun x1_0 x1_1 x1_2 x1_3=>none) | m+1=>(fun x1_0 x1_1 x1_2 x1_3=>laws_FnUnique_b1 D n (laws_FnUnique_L1 D n K0 K1 m) K0 K1 (laws_FnUnique_LP2 D n (laws_FnUnique_L1 D n K0 K1 m) K0 K1) x1_0 x1_1 x1_2 x1_3)
def laws_FnUnique_x1_0 (D:DX)(n:Nat) (go:Int→(tSch)×tRows×Unit→Option ((Bool×Unit)×Unit)) (K0:Option ((Bool×Unit)×Unit)) (K1:Bool→Option ((Bool×Unit)×Unit)) (v0_0:Int) (v0_1:(tSch)×tRows×Unit):Option ((Bool×Unit)×Unit):=go (IntKind.wrap IntKind.i64 (v0_0+1)) v0_1
def laws_FnUnique_x1_1 (D:DX)(n:Nat) (go:Int→(tSch)×tRows×Unit→Option ((Bool×Unit)×Unit)) (K0:Option ((Bool×Unit)×Unit)) (K1:Bool→Option ((Bool×Unit)×Unit)) (v1_0:Bool) (v1_1:Int) (v1_2:(tSch)×tRows×Unit):Option ((Bool×Unit)×Unit):=K1 v1_0
def laws_FnUnique_LP1 (D:DX)(n:Nat) (go:Int→(tSch)×tRows×Unit→Option ((Bool×Unit)×Unit)) (K0:Option ((Bool×Unit)×Unit)) (K1:Bool→Option ((Bool×Unit)×Unit)):(Int)→(Int)→((tSch)×tRows×Unit)→tIx→Option ((Bool×Unit)×Unit):=(fun x1_0 x1_1 x1_2 x1_3=>laws_FnUnique_L1 D n (fun v0_0 v0_1=>laws_FnUnique_x1_0 D n go K0 K1 v0_0 v0_1) (fun v1_0 v1_1 v1_2=>laws_FnUnique_x1_1 D n go K0 K1 v1_0 v1_1 v1_2) n x1_0 x1_1 x1_2 x1_3)
def laws_FnUnique_b0 (D:DX)(n:Nat) (go:Int→(tSch)×tRows×Unit→Option ((Bool×Unit)×Unit)) (K0:Option ((Bool×Unit)×Unit)) (K1:Bool→Option ((Bool×Unit)×Unit)) (lp1:Int→Int→(tSch)×tRows×Unit→ByteArray×List Int×Bool×Unit→Option ((Bool×Unit)×Unit)) (x0:Int) (x1:(tSch)×tRows×Unit):Option ((Bool×Unit)×Unit):=br (decide (x0<(↑(List.length (Prod.fst (Prod.snd (Prod.snd (Prod.fst x1))))):Int))) (br (decide (0≤x0)&&decide (x0<(↑(List.length (Prod.fst (Prod.snd (Prod.snd (Prod.fst x1))))):Int))) (lp1 x0 0 x1 (List.getD (Prod.fst (Prod.snd (Prod.snd (Prod.fst x1)))) (Int.toNat x0) (ByteArray.empty,[],false,()))) none) K0
def laws_FnUnique_L0 (D:DX)(n:Nat) (K0:Option ((Bool×Unit)×Unit)) (K1:Bool→Option ((Bool×Unit)×Unit)):Nat→(Int)→((tSch)×tRows×Unit)→Option ((Bool×Unit)×Unit) | 0=>(fun x0 x1=>none) | m+1=>(fun x0 x1=>laws_FnUnique_b0 D n (laws_FnUnique_L0 D n K0 K1 m) K0 K1 (laws_FnUnique_LP1 D n (laws_FnUnique_L0 D n K0 K1 m) K0 K1) x0 x1)
def laws_FnUnique_x0_0 (D:DX)(n:Nat):Option ((Bool×Unit)×Unit):=some ((true,()),())
def laws_FnUnique_x0_1 (D:DX)(n:Nat) (v1_0:Bool):Option ((Bool×Unit)×Unit):=some ((v1_0,()),())
def laws_FnUnique_LP0 (D:DX)(n:Nat):(Int)→((tSch)×tRows×Unit)→Option ((Bool×Unit)×Unit):=(fun x0 x1=>laws_FnUnique_L0 D n (laws_FnUnique_x0_0 D n) (fun v1_0=>laws_FnUnique_x0_1 D n v1_0) n x0 x1)
def laws_FnUnique_e (D:DX)(n:Nat) (lp0:Int→(tSch)×tRows×Unit→Option ((Bool×Unit)×Unit)) (a0:List Int):Option ((Bool×Unit)×Unit):=bindD (C_laws_big D a0) fun b↦br (Prod.fst (Prod.fst b)) (some ((true,()),())) (bindD (C_spec_DrawRelation D a0) fun b↦bindD (C_impl_Insert D (Prod.fst (Prod.fst b)) (Prod.fst (Prod.snd (Prod.fst b)))) fun b_1↦bindD (C_impl_RelOk D (Prod.fst (Prod.fst b))) fun b_2↦br (!Prod.fst (Prod.fst b_2)) (some ((false,()),())) (br (decide (Prod.fst (Prod.snd (Prod.fst b_1))=1)) (bindD (C_impl_RowOk D (Prod.fst (Prod.fst (Prod.fst b))) (Prod.fst (Prod.snd (Prod.fst b)))) fun b↦br (Prod.fst (Prod.fst b)) (some ((false,()),())) (lp0 0 ((Prod.fst (Prod.fst (Prod.fst (Prod.fst b_1))),Prod.fst (Prod.snd (Prod.fst (Prod.fst (Prod.fst b_1)))),Prod.fst (Prod.snd (Prod.snd (Prod.fst (Prod.fst (Prod.fst b_1))))),()),Prod.fst (Prod.snd (Prod.fst (Prod.fst b_1))),()))) (lp0 0 ((Prod.fst (Prod.fst (Prod.fst (Prod.fst b_1))),Prod.fst (Prod.snd (Prod.fst (Prod.fst (Prod.fst b_1)))),Prod.fst (Prod.snd (Prod.snd (Prod.fst (Prod.fst (Prod.fst b_1))))),()),Prod.fst (Prod.snd (Prod.fst (Prod.fst b_1))),()))))
def F_laws_FnUnique (D:DX)(n:Nat) (a0:List Int):Option ((Bool×Unit)×Unit):=laws_FnUnique_e D n (laws_FnUnique_LP0 D n) a0
def laws_FnUnique_Q0 (x0:Int) (x1:(tSch)×tRows×Unit):St:=stq 91 [(5,AV.addr 5 []),(7,avI x0)] [(5,Root.mk (Ty.pair yS (Ty.pair (Ty.sl (Ty.sl yV)) Ty.unit)) Mk.no x1 true)] 
def laws_FnUnique_Q0_0:St:=stq 91 [] [] 
def laws_FnUnique_Q0_1 (v1_0:Bool):St:=stq 91 [(2,AV.val Ty.bool v1_0)] [] 
def laws_FnUnique_Q1 (x1_0:Int) (x1_1:Int) (x1_2:(tSch)×tRows×Unit) (x1_3:ByteArray×List Int×Bool×Unit):St:=stq 91 [(5,AV.addr 5 []),(7,avI x1_0),(8,AV.addr 8 []),(9,avI x1_1)] [(5,Root.mk (Ty.pair yS (Ty.pair (Ty.sl (Ty.sl yV)) Ty.unit)) Mk.no x1_2 true),(8,Root.mk yX Mk.no x1_3 true)] 
def laws_FnUnique_Q1_0 (v0_0:Int) (v0_1:(tSch)×tRows×Unit):St:=stq 91 [(5,AV.addr 5 []),(7,avI v0_0)] [(5,Root.mk (Ty.pair yS (Ty.pair (Ty.sl (Ty.sl yV)) Ty.unit)) Mk.no v0_1 true)] 
def laws_FnUnique_Q1_1 (v1_0:Bool) (v1_1:Int) (v1_2:(tSch)×tRows×Unit):St:=stq 91 [(2,AV.val Ty.bool v1_0),(5,AV.addr 5 []),(7,avI v1_1)] [(5,Root.mk (Ty.pair yS (Ty.pair (Ty.sl (Ty.sl yV)) Ty.unit)) Mk.no v1_2 true)] 
def laws_FnUnique_Q2 (x2_0:Int) (x2_1:Int) (x2_2:Int) (x2_3:(tSch)×tRows×Unit) (x2_4:ByteArray×List Int×Bool×Unit):St:=stq 91 [(5,AV.addr 5 []),(7,avI x2_0),(8,AV.addr 8 []),(9,avI x2_1),(10,avI x2_2)] [(5,Root.mk (Ty.pair yS (Ty.pair (Ty.sl (Ty.sl yV)) Ty.unit)) Mk.no x2_3 true),(8,Root.mk yX Mk.no x2_4 true)] 
def laws_FnUnique_Q2_0 (v0_0:Bool) (v0_1:Int) (v0_2:Int) (v0_3:(tSch)×tRows×Unit) (v0_4:ByteArray×List Int×Bool×Unit):St:=stq 91 [(2,AV.val Ty.bool v0_0),(5,AV.addr 5 []),(7,avI v0_1),(8,AV.addr 8 []),(9,avI v0_2)] [(5,Root.mk (Ty.pair yS (Ty.pair (Ty.sl (Ty.sl yV)) Ty.unit)) Mk.no v0_3 true),(8,Root.mk yX Mk.no v0_4 true)] 
def laws_FnUnique_Q2_1 (v1_0:Int) (v1_1:Int) (v1_2:(tSch)×tRows×Unit) (v1_3:ByteArray×List Int×Bool×Unit):St:=stq 91 [(5,AV.addr 5 []),(7,avI v1_0),(8,AV.addr 8 []),(9,avI v1_1)] [(5,Root.mk (Ty.pair yS (Ty.pair (Ty.sl (Ty.sl yV)) Ty.unit)) Mk.no v1_2 true),(8,Root.mk yX Mk.no v1_3 true)] 
theorem laws_FnUnique_SB2 (D:DX)(n:Nat) (m:Nat) (K:Ex→St→Option (Out ctx 10)) (x2_0:Int) (x2_1:Int) (x2_2:Int) (x2_3:(tSch)×
  tRows×Unit) (x2_4:ByteArray×List Int×Bool×Unit) :
  LQ funcTab D n 10 [.r,.r,.r,.r,.r,.l,.r,.l,.l,.r,.l,.l,.r,.r,.l,.l,.r,.l,.l,.r,.l] (m+1) (laws_FnUnique_Q2 x2_0 x2_1 x2_2 x2_3 x2_4) K=laws_FnUnique_b2 D n (fun x2_0 x2_1 x2_2 x2_3 x2_4=>LQ funcTab D n 10 [.r,.r,.r,.r,.r,.l,.r,.l,.l,.r,.l,.l,.r,.r,.l,.l,.r,.l,.l,.r,.l] m (laws_FnUnique_Q2 x2_0 x2_1 x2_2 x2_3 x2_4) K) (fun v0_0 v0_1 v0_2 v0_3 v0_4=>K (Ex.ret) (laws_FnUnique_Q2_0 v0_0 v0_1 v0_2 v0_3 v0_4)) (fun v1_0 v1_1 v1_2 v1_3=>K (Ex.exit 4) (laws_FnUnique_Q2_1 v1_0 v1_1 v1_2 v1_3)) x2_0 x2_1 x2_2 x2_3 x2_4:=by kernel_rfl
theorem laws_FnUnique_EL2 (D:DX)(n:Nat) (K:Ex→St→Option (Out ctx 10)):∀ (m:Nat) (x2_0:Int) (x2_1:Int) (x2_2:Int) (x2_3:(tSch)×
  tRows×Unit) (x2_4:ByteArray×List Int×Bool×Unit),LQ funcTab D n 10 [.r,.r,.r,.r,.r,.l,.r,.l,.l,.r,.l,.l,.r,.r,.l,.l,.r,.l,.l,.r,.l] m (laws_FnUnique_Q2 x2_0 x2_1 x2_2 x2_3 x2_4) K=laws_FnUnique_L2 D n (fun v0_0 v0_1 v0_2 v0_3 v0_4=>K (Ex.ret) (laws_FnUnique_Q2_0 v0_0 v0_1 v0_2 v0_3 v0_4)) (fun v1_0 v1_1 v1_2 v1_3=>K (Ex.exit 4) (laws_FnUnique_Q2_1 v1_0 v1_1 v1_2 v1_3)) m x2_0 x2_1 x2_2 x2_3 x2_4
  | 0,x2_0,x2_1,x2_2,x2_3,x2_4=>LQ_zero ..
  | m+1,x2_0,x2_1,x2_2,x2_3,x2_4=>by
    have ih:(fun x2_0 x2_1 x2_2 x2_3 x2_4=>LQ funcTab D n 10 [.r,.r,.r,.r,.r,.l,.r,.l,.l,.r,.l,.l,.r,.r,.l,.l,.r,.l,.l,.r,.l] m (laws_FnUnique_Q2 x2_0 x2_1 x2_2 x2_3 x2_4) K)=laws_FnUnique_L2 D n (fun v0_0 v0_1 v0_2 v0_3 v0_4=>K (Ex.ret) (laws_FnUnique_Q2_0 v0_0 v0_1 v0_2 v0_3 v0_4)) (fun v1_0 v1_1 v1_2 v1_3=>K (Ex.exit 4) (laws_FnUnique_Q2_1 v1_0 v1_1 v1_2 v1_3)) m:=by funext x2_0 x2_1 x2_2 x2_3 x2_4;exact laws_FnUnique_EL2 D n K m x2_0 x2_1 x2_2 x2_3 x2_4
    rw[laws_FnUnique_SB2]
    rw[ih];rfl
theorem laws_FnUnique_X2_0 (D:DX)(n:Nat) (m:Nat) (K:Ex→St→Option (Out ctx 10)) (v0_0:Bool) (v0_1:Int) (v0_2:Int) (v0_3:(tSch)×
  tRows×Unit) (v0_4:ByteArray×List Int×Bool×Unit) :
  (CQ funcTab D n 10 [.r,.r,.r,.r,.r,.l,.r,.l,.l,.r,.l,.l,.r,.r,.l,.l] [.r,.l,.l,.r,.l] (LK funcTab D n 10 [.r,.r,.r,.r,.r,.l,.r,.l,.l,.r,.l,.l,.r,.r,.l] m K)) (Ex.ret) (laws_FnUnique_Q2_0 v0_0 v0_1 v0_2 v0_3 v0_4)=laws_FnUnique_x2_0 D n (fun x1_0 x1_1 x1_2 x1_3=>LQ funcTab D n 10 [.r,.r,.r,.r,.r,.l,.r,.l,.l,.r,.l,.l,.r,.r,.l] m (laws_FnUnique_Q1 x1_0 x1_1 x1_2 x1_3) K) (fun v0_0 v0_1=>K (Ex.exit 2) (laws_FnUnique_Q1_0 v0_0 v0_1)) (fun v1_0 v1_1 v1_2=>K (Ex.ret) (laws_FnUnique_Q1_1 v1_0 v1_1 v1_2)) v0_0 v0_1 v0_2 v0_3 v0_4:=by kernel_rfl
theorem laws_FnUnique_X2_1 (D:DX)(n:Nat) (m:Nat) (K:Ex→St→Option (Out ctx 10)) (v1_0:Int) (v1_1:Int) (v1_2:(tSch)×
  tRows×Unit) (v1_3:ByteArray×List Int×Bool×Unit) :
  (CQ funcTab D n 10 [.r,.r,.r,.r,.r,.l,.r,.l,.l,.r,.l,.l,.r,.r,.l,.l] [.r,.l,.l,.r,.l] (LK funcTab D n 10 [.r,.r,.r,.r,.r,.l,.r,.l,.l,.r,.l,.l,.r,.r,.l] m K)) (Ex.exit 4) (laws_FnUnique_Q2_1 v1_0 v1_1 v1_2 v1_3)=laws_FnUnique_x2_1 D n (fun x1_0 x1_1 x1_2 x1_3=>LQ funcTab D n 10 [.r,.r,.r,.r,.r,.l,.r,.l,.l,.r,.l,.l,.r,.r,.l] m (laws_FnUnique_Q1 x1_0 x1_1 x1_2 x1_3) K) (fun v0_0 v0_1=>K (Ex.exit 2) (laws_FnUnique_Q1_0 v0_0 v0_1)) (fun v1_0 v1_1 v1_2=>K (Ex.ret) (laws_FnUnique_Q1_1 v1_0 v1_1 v1_2)) v1_0 v1_1 v1_2 v1_3:=by kernel_rfl
theorem laws_FnUnique_ELP2 (D:DX)(n:Nat) (m:Nat) (K:Ex→St→Option (Out ctx 10)) (x2_0:Int) (x2_1:Int) (x2_2:Int) (x2_3:(tSch)×
  tRows×Unit) (x2_4:ByteArray×List Int×Bool×Unit) :
  LQ funcTab D n 10 [.r,.r,.r,.r,.r,.l,.r,.l,.l,.r,.l,.l,.r,.r,.l,.l,.r,.l,.l,.r,.l] n (laws_FnUnique_Q2 x2_0 x2_1 x2_2 x2_3 x2_4) (CQ funcTab D n 10 [.r,.r,.r,.r,.r,.l,.r,.l,.l,.r,.l,.l,.r,.r,.l,.l] [.r,.l,.l,.r,.l] (LK funcTab D n 10 [.r,.r,.r,.r,.r,.l,.r,.l,.l,.r,.l,.l,.r,.r,.l] m K))=laws_FnUnique_LP2 D n (fun x1_0 x1_1 x1_2 x1_3=>LQ funcTab D n 10 [.r,.r,.r,.r,.r,.l,.r,.l,.l,.r,.l,.l,.r,.r,.l] m (laws_FnUnique_Q1 x1_0 x1_1 x1_2 x1_3) K) (fun v0_0 v0_1=>K (Ex.exit 2) (laws_FnUnique_Q1_0 v0_0 v0_1)) (fun v1_0 v1_1 v1_2=>K (Ex.ret) (laws_FnUnique_Q1_1 v1_0 v1_1 v1_2)) x2_0 x2_1 x2_2 x2_3 x2_4:=by
  rw[laws_FnUnique_EL2]
  simp only[laws_FnUnique_X2_0,laws_FnUnique_X2_1]
  rfl
theorem laws_FnUnique_SB1 (D:DX)(n:Nat) (m:Nat) (K:Ex→St→Option (Out ctx 10)) (x1_0:Int) (x1_1:Int) (x1_2:(tSch)×
  tRows×Unit) (x1_3:ByteArray×List Int×Bool×Unit) :
  LQ funcTab D n 10 [.r,.r,.r,.r,.r,.l,.r,.l,.l,.r,.l,.l,.r,.r,.l] (m+1) (laws_FnUnique_Q1 x1_0 x1_1 x1_2 x1_3) K=laws_FnUnique_b1 D n (fun x1_0 x1_1 x1_2 x1_3=>LQ funcTab D n 10 [.r,.r,.r,.r,.r,.l,.r,.l,.l,.r,.l,.l,.r,.r,.l] m (laws_FnUnique_Q1 x1_0 x1_1 x1_2 x1_3) K) (fun v0_0 v0_1=>K (Ex.exit 2) (laws_FnUnique_Q1_0 v0_0 v0_1)) (fun v1_0 v1_1 v1_2=>K (Ex.ret) (laws_FnUnique_Q1_1 v1_0 v1_1 v1_2)) (fun x2_0 x2_1 x2_2 x2_3 x2_4=>LQ funcTab D n 10 [.r,.r,.r,.r,.r,.l,.r,.l,.l,.r,.l,.l,.r,.r,.l,.l,.r,.l,.l,.r,.l] n (laws_FnUnique_Q2 x2_0 x2_1 x2_2 x2_3 x2_4) (CQ funcTab D n 10 [.r,.r,.r,.r,.r,.l,.r,.l,.l,.r,.l,.l,.r,.r,.l,.l] [.r,.l,.l,.r,.l] (LK funcTab D n 10 [.r,.r,.r,.r,.r,.l,.r,.l,.l,.r,.l,.l,.r,.r,.l] m K))) x1_0 x1_1 x1_2 x1_3:=by kernel_rfl
theorem laws_FnUnique_EL1 (D:DX)(n:Nat) (K:Ex→St→Option (Out ctx 10)):∀ (m:Nat) (x1_0:Int) (x1_1:Int) (x1_2:(tSch)×
  tRows×Unit) (x1_3:ByteArray×List Int×Bool×Unit),LQ funcTab D n 10 [.r,.r,.r,.r,.r,.l,.r,.l,.l,.r,.l,.l,.r,.r,.l] m (laws_FnUnique_Q1 x1_0 x1_1 x1_2 x1_3) K=laws_FnUnique_L1 D n (fun v0_0 v0_1=>K (Ex.exit 2) (laws_FnUnique_Q1_0 v0_0 v0_1)) (fun v1_0 v1_1 v1_2=>K (Ex.ret) (laws_FnUnique_Q1_1 v1_0 v1_1 v1_2)) m x1_0 x1_1 x1_2 x1_3
  | 0,x1_0,x1_1,x1_2,x1_3=>LQ_zero ..
  | m+1,x1_0,x1_1,x1_2,x1_3=>by
    have ih:(fun x1_0 x1_1 x1_2 x1_3=>LQ funcTab D n 10 [.r,.r,.r,.r,.r,.l,.r,.l,.l,.r,.l,.l,.r,.r,.l] m (laws_FnUnique_Q1 x1_0 x1_1 x1_2 x1_3) K)=laws_FnUnique_L1 D n (fun v0_0 v0_1=>K (Ex.exit 2) (laws_FnUnique_Q1_0 v0_0 v0_1)) (fun v1_0 v1_1 v1_2=>K (Ex.ret) (laws_FnUnique_Q1_1 v1_0 v1_1 v1_2)) m:=by funext x1_0 x1_1 x1_2 x1_3;exact laws_FnUnique_EL1 D n K m x1_0 x1_1 x1_2 x1_3
    rw[laws_FnUnique_SB1]
    simp only[laws_FnUnique_ELP2]
    rw[ih];rfl
theorem laws_FnUnique_X1_0 (D:DX)(n:Nat) (m:Nat) (K:Ex→St→Option (Out ctx 10)) (v0_0:Int) (v0_1:(tSch)×
  tRows×Unit) :
  (CQ funcTab D n 10 [.r,.r,.r,.r,.r,.l,.r,.l,.l] [.r,.l,.l,.r,.r,.l] (LK funcTab D n 10 [.r,.r,.r,.r,.r,.l,.r,.l] m K)) (Ex.exit 2) (laws_FnUnique_Q1_0 v0_0 v0_1)=laws_FnUnique_x1_0 D n (fun x0 x1=>LQ funcTab D n 10 [.r,.r,.r,.r,.r,.l,.r,.l] m (laws_FnUnique_Q0 x0 x1) K) (K (Ex.exit 0) (laws_FnUnique_Q0_0)) (fun v1_0=>K (Ex.ret) (laws_FnUnique_Q0_1 v1_0)) v0_0 v0_1:=by kernel_rfl
theorem laws_FnUnique_X1_1 (D:DX)(n:Nat) (m:Nat) (K:Ex→St→Option (Out ctx 10)) (v1_0:Bool) (v1_1:Int) (v1_2:(tSch)×
  tRows×Unit) :
  (CQ funcTab D n 10 [.r,.r,.r,.r,.r,.l,.r,.l,.l] [.r,.l,.l,.r,.r,.l] (LK funcTab D n 10 [.r,.r,.r,.r,.r,.l,.r,.l] m K)) (Ex.ret) (laws_FnUnique_Q1_1 v1_0 v1_1 v1_2)=laws_FnUnique_x1_1 D n (fun x0 x1=>LQ funcTab D n 10 [.r,.r,.r,.r,.r,.l,.r,.l] m (laws_FnUnique_Q0 x0 x1) K) (K (Ex.exit 0) (laws_FnUnique_Q0_0)) (fun v1_0=>K (Ex.ret) (laws_FnUnique_Q0_1 v1_0)) v1_0 v1_1 v1_2:=by kernel_rfl
theorem laws_FnUnique_ELP1 (D:DX)(n:Nat) (m:Nat) (K:Ex→St→Option (Out ctx 10)) (x1_0:Int) (x1_1:Int) (x1_2:(tSch)×
  tRows×Unit) (x1_3:ByteArray×List Int×Bool×Unit) :
  LQ funcTab D n 10 [.r,.r,.r,.r,.r,.l,.r,.l,.l,.r,.l,.l,.r,.r,.l] n (laws_FnUnique_Q1 x1_0 x1_1 x1_2 x1_3) (CQ funcTab D n 10 [.r,.r,.r,.r,.r,.l,.r,.l,.l] [.r,.l,.l,.r,.r,.l] (LK funcTab D n 10 [.r,.r,.r,.r,.r,.l,.r,.l] m K))=laws_FnUnique_LP1 D n (fun x0 x1=>LQ funcTab D n 10 [.r,.r,.r,.r,.r,.l,.r,.l] m (laws_FnUnique_Q0 x0 x1) K) (K (Ex.exit 0) (laws_FnUnique_Q0_0)) (fun v1_0=>K (Ex.ret) (laws_FnUnique_Q0_1 v1_0)) x1_0 x1_1 x1_2 x1_3:=by
  rw[laws_FnUnique_EL1]
  simp only[laws_FnUnique_X1_0,laws_FnUnique_X1_1]
  rfl
theorem laws_FnUnique_SB0 (D:DX)(n:Nat) (m:Nat) (K:Ex→St→Option (Out ctx 10)) (x0:Int) (x1:(tSch)×
  tRows×Unit) :
  LQ funcTab D n 10 [.r,.r,.r,.r,.r,.l,.r,.l] (m+1) (laws_FnUnique_Q0 x0 x1) K=laws_FnUnique_b0 D n (fun x0 x1=>LQ funcTab D n 10 [.r,.r,.r,.r,.r,.l,.r,.l] m (laws_FnUnique_Q0 x0 x1) K) (K (Ex.exit 0) (laws_FnUnique_Q0_0)) (fun v1_0=>K (Ex.ret) (laws_FnUnique_Q0_1 v1_0)) (fun x1_0 x1_1 x1_2 x1_3=>LQ funcTab D n 10 [.r,.r,.r,.r,.r,.l,.r,.l,.l,.r,.l,.l,.r,.r,.l] n (laws_FnUnique_Q1 x1_0 x1_1 x1_2 x1_3) (CQ funcTab D n 10 [.r,.r,.r,.r,.r,.l,.r,.l,.l] [.r,.l,.l,.r,.r,.l] (LK funcTab D n 10 [.r,.r,.r,.r,.r,.l,.r,.l] m K))) x0 x1:=by kernel_rfl
theorem laws_FnUnique_EL0 (D:DX)(n:Nat) (K:Ex→St→Option (Out ctx 10)):∀ (m:Nat) (x0:Int) (x1:(tSch)×
  tRows×Unit),LQ funcTab D n 10 [.r,.r,.r,.r,.r,.l,.r,.l] m (laws_FnUnique_Q0 x0 x1) K=laws_FnUnique_L0 D n (K (Ex.exit 0) (laws_FnUnique_Q0_0)) (fun v1_0=>K (Ex.ret) (laws_FnUnique_Q0_1 v1_0)) m x0 x1
  | 0,x0,x1=>LQ_zero ..
  | m+1,x0,x1=>by
    have ih:(fun x0 x1=>LQ funcTab D n 10 [.r,.r,.r,.r,.r,.l,.r,.l] m (laws_FnUnique_Q0 x0 x1) K)=laws_FnUnique_L0 D n (K (Ex.exit 0) (laws_FnUnique_Q0_0)) (fun v1_0=>K (Ex.ret) (laws_FnUnique_Q0_1 v1_0)) m:=by funext x0 x1;exact laws_FnUnique_EL0 D n K m x0 x1
    rw[laws_FnUnique_SB0]
    simp only[laws_FnUnique_ELP1]
    rw[ih];rfl
theorem laws_FnUnique_X0_0 (D:DX)(n:Nat) :
  (CQ funcTab D n 10 [] [.r,.r,.r,.r,.r,.l,.r,.l] (lastK funcTab 10)) (Ex.exit 0) (laws_FnUnique_Q0_0)=laws_FnUnique_x0_0 D n:=by kernel_rfl
theorem laws_FnUnique_X0_1 (D:DX)(n:Nat) (v1_0:Bool) :
  (CQ funcTab D n 10 [] [.r,.r,.r,.r,.r,.l,.r,.l] (lastK funcTab 10)) (Ex.ret) (laws_FnUnique_Q0_1 v1_0)=laws_FnUnique_x0_1 D n v1_0:=by kernel_rfl
theorem laws_FnUnique_ELP0 (D:DX)(n:Nat) (x0:Int) (x1:(tSch)×
  tRows×Unit) :
  LQ funcTab D n 10 [.r,.r,.r,.r,.r,.l,.r,.l] n (laws_FnUnique_Q0 x0 x1) (CQ funcTab D n 10 [] [.r,.r,.r,.r,.r,.l,.r,.l] (lastK funcTab 10))=laws_FnUnique_LP0 D n x0 x1:=by
  rw[laws_FnUnique_EL0]
  simp only[laws_FnUnique_X0_0,laws_FnUnique_X0_1]
  rfl
theorem E_laws_FnUnique (D:DX)(n:Nat) (a0:List Int):rfC funcTab D n 10 (a0,())=F_laws_FnUnique D n a0:=by
  have h:rfC funcTab D n 10 (a0,())=laws_FnUnique_e D n (fun x0 x1=>LQ funcTab D n 10 [.r,.r,.r,.r,.r,.l,.r,.l] n (laws_FnUnique_Q0 x0 x1) (CQ funcTab D n 10 [] [.r,.r,.r,.r,.r,.l,.r,.l] (lastK funcTab 10))) a0:=by kernel_rfl
  rw[h]
  simp only[laws_FnUnique_ELP0]
  rfl


def spec_SchemaOk_b0 (D:DX)(n:Nat) (go:Int→tSch→Option ((Bool×Unit)×Unit)) (K0:Bool→tSch→Option ((Bool×Unit)×Unit)) (K1:tSch→Option ((Bool×Unit)×Unit)) (x0:Int) (x1:tSch):Option ((Bool×Unit)×Unit):=br (decide (x0<(↑(List.length (Prod.fst x1)):Int))) (br (decide (0≤x0)&&decide (x0<(↑(List.length (Prod.fst x1)):Int))) (bindD (C_spec_ColNameOk D (Prod.fst (List.getD (Prod.fst x1) (Int.toNat x0) (ByteArray.empty,0,false,())))) fun b↦br (!Prod.fst (Prod.fst b)) (K0 false x1) (br (decide (0≤x0)&&decide (x0<(↑(List.length (Prod.fst x1)):Int))) (bindD (C_spec_l1In D (Prod.fst (Prod.snd (List.getD (Prod.fst x1) (Int.toNat x0) (ByteArray.empty,0,false,())))) 1 3) fun b↦br (!Prod.fst (Prod.fst b)) (K0 false x1) (br (decide (0≤x0)&&decide (x0<(↑(List.length (Prod.fst x1)):Int))) (bindD (C_spec_ColAt D x1 (Prod.fst (List.getD (Prod.fst x1) (Int.toNat x0) (ByteArray.empty,0,false,())))) fun b↦br (Prod.fst (Prod.fst b) != x0) (K0 false x1) (go (IntKind.wrap IntKind.i64 (x0+1)) x1)) none)) none)) none) (K1 x1)
def spec_SchemaOk_L0 (D:DX)(n:Nat) (K0:Bool→tSch→Option ((Bool×Unit)×Unit)) (K1:tSch→Option ((Bool×Unit)×Unit)):Nat→(Int)→(tSch)→Option ((Bool×Unit)×Unit) | 0=>(fun x0 x1=>none) | m+1=>(fun x0 x1=>spec_SchemaOk_b0 D n (spec_SchemaOk_L0 D n K0 K1 m) K0 K1 x0 x1)
def spec_SchemaOk_x0_0 (D:DX)(n:Nat) (v0_0:Bool) (v0_1:tSch):Option ((Bool×Unit)×Unit):=some ((v0_0,()),())
def spec_SchemaOk_b1 (D:DX)(n:Nat) (go:Int→tSch→Option ((Bool×Unit)×Unit)) (K0:Bool→Option ((Bool×Unit)×Unit)) (K1:Option ((Bool×Unit)×Unit)) (x1_0:Int) (x1_1:tSch):Option ((Bool×Unit)×Unit):=br (decide (x1_0<(↑(List.length (Prod.fst (Prod.snd x1_1))):Int))) (br (decide (0≤x1_0)&&decide (x1_0<(↑(List.length (Prod.fst (Prod.snd x1_1))):Int))) (br (decide (0≤List.getD (Prod.fst (Prod.snd x1_1)) (Int.toNat x1_0) 0)&&decide (List.getD (Prod.fst (Prod.snd x1_1)) (Int.toNat x1_0) 0<(↑(List.length (Prod.fst x1_1)):Int))) (br (Prod.fst (Prod.snd (Prod.snd (List.getD (Prod.fst x1_1) (Int.toNat (List.getD (Prod.fst (Prod.snd x1_1)) (Int.toNat x1_0) 0)) (ByteArray.empty,0,false,()))))) (K0 false) (go (IntKind.wrap IntKind.i64 (x1_0+1)) x1_1)) none) none) K1
def spec_SchemaOk_L1 (D:DX)(n:Nat) (K0:Bool→Option ((Bool×Unit)×Unit)) (K1:Option ((Bool×Unit)×Unit)):Nat→(Int)→(tSch)→Option ((Bool×Unit)×Unit) | 0=>(fun x1_0 x1_1=>none) | m+1=>(fun x1_0 x1_1=>spec_SchemaOk_b1 D n (spec_SchemaOk_L1 D n K0 K1 m) K0 K1 x1_0 x1_1)
def spec_SchemaOk_x1_0 (D:DX)(n:Nat) (v0_0:Bool):Option ((Bool×Unit)×Unit):=some ((v0_0,()),())
def spec_SchemaOk_x1_1 (D:DX)(n:Nat):Option ((Bool×Unit)×Unit):=some ((true,()),())
def spec_SchemaOk_LP1 (D:DX)(n:Nat):(Int)→(tSch)→Option ((Bool×Unit)×Unit):=(fun x1_0 x1_1=>spec_SchemaOk_L1 D n (fun v0_0=>spec_SchemaOk_x1_0 D n v0_0) (spec_SchemaOk_x1_1 D n) n x1_0 x1_1)
def spec_SchemaOk_x0_1 (D:DX)(n:Nat) (lp1:Int→tSch→Option ((Bool×Unit)×Unit)) (v1_0:tSch):Option ((Bool×Unit)×Unit):=bindD (C_spec_l1In D (↑(List.length (Prod.fst v1_0)):Int) 1 5) fun b↦br (!Prod.fst (Prod.fst b)) (some ((false,()),())) (bindD (C_spec_l19Places D v1_0 (Prod.fst (Prod.snd v1_0)) 4) fun b↦br (!Prod.fst (Prod.fst b)) (some ((false,()),())) (bindD (C_spec_l19Indexes D v1_0) fun b↦br (!Prod.fst (Prod.fst b)) (some ((false,()),())) (lp1 0 v1_0)))
def spec_SchemaOk_LP0 (D:DX)(n:Nat):(Int)→(tSch)→Option ((Bool×Unit)×Unit):=(fun x0 x1=>spec_SchemaOk_L0 D n (fun v0_0 v0_1=>spec_SchemaOk_x0_0 D n v0_0 v0_1) (fun v1_0=>spec_SchemaOk_x0_1 D n (spec_SchemaOk_LP1 D n) v1_0) n x0 x1)
def spec_SchemaOk_e (D:DX)(n:Nat) (lp0:Int→tSch→Option ((Bool×Unit)×Unit)) (a0:tSch):Option ((Bool×Unit)×Unit):=lp0 0 a0
def F_spec_SchemaOk (D:DX)(n:Nat) (a0:tSch):Option ((Bool×Unit)×Unit):=spec_SchemaOk_e D n (spec_SchemaOk_LP0 D n) a0
def spec_SchemaOk_Q0 (x0:Int) (x1:tSch):St:=stq 76 [(1,AV.addr 1 []),(3,avI x0)] [(1,Root.mk yS Mk.no x1 true)] 
def spec_SchemaOk_Q0_0 (v0_0:Bool) (v0_1:tSch):St:=stq 76 [(1,AV.addr 1 []),(2,AV.val Ty.bool v0_0)] [(1,Root.mk yS Mk.no v0_1 true)] 
def spec_SchemaOk_Q0_1 (v1_0:tSch):St:=stq 76 [(1,AV.addr 1 [])] [(1,Root.mk yS Mk.no v1_0 true)] 
def spec_SchemaOk_Q1 (x1_0:Int) (x1_1:tSch):St:=stq 76 [(1,AV.addr 1 []),(4,avI x1_0)] [(1,Root.mk yS Mk.no x1_1 true)] 
def spec_SchemaOk_Q1_0 (v0_0:Bool):St:=stq 76 [(2,AV.val Ty.bool v0_0)] [] 
def spec_SchemaOk_Q1_1:St:=stq 76 [] [] 
theorem spec_SchemaOk_SB0 (D:DX)(n:Nat) (m:Nat) (K:Ex→St→Option (Out ctx 16)) (x0:Int) (x1:tSch) :
  LQ funcTab D n 16 [.r,.l,.r,.l] (m+1) (spec_SchemaOk_Q0 x0 x1) K=spec_SchemaOk_b0 D n (fun x0 x1=>LQ funcTab D n 16 [.r,.l,.r,.l] m (spec_SchemaOk_Q0 x0 x1) K) (fun v0_0 v0_1=>K (Ex.ret) (spec_SchemaOk_Q0_0 v0_0 v0_1)) (fun v1_0=>K (Ex.exit 0) (spec_SchemaOk_Q0_1 v1_0)) x0 x1:=by kernel_rfl
theorem spec_SchemaOk_EL0 (D:DX)(n:Nat) (K:Ex→St→Option (Out ctx 16)):∀ (m:Nat) (x0:Int) (x1:tSch),LQ funcTab D n 16 [.r,.l,.r,.l] m (spec_SchemaOk_Q0 x0 x1) K=spec_SchemaOk_L0 D n (fun v0_0 v0_1=>K (Ex.ret) (spec_SchemaOk_Q0_0 v0_0 v0_1)) (fun v1_0=>K (Ex.exit 0) (spec_SchemaOk_Q0_1 v1_0)) m x0 x1
  | 0,x0,x1=>LQ_zero ..
  | m+1,x0,x1=>by
    have ih:(fun x0 x1=>LQ funcTab D n 16 [.r,.l,.r,.l] m (spec_SchemaOk_Q0 x0 x1) K)=spec_SchemaOk_L0 D n (fun v0_0 v0_1=>K (Ex.ret) (spec_SchemaOk_Q0_0 v0_0 v0_1)) (fun v1_0=>K (Ex.exit 0) (spec_SchemaOk_Q0_1 v1_0)) m:=by funext x0 x1;exact spec_SchemaOk_EL0 D n K m x0 x1
    rw[spec_SchemaOk_SB0]
    rw[ih];rfl
theorem spec_SchemaOk_SB1 (D:DX)(n:Nat) (m:Nat) (K:Ex→St→Option (Out ctx 16)) (x1_0:Int) (x1_1:tSch) :
  LQ funcTab D n 16 [.r,.r,.r,.l,.r,.l] (m+1) (spec_SchemaOk_Q1 x1_0 x1_1) K=spec_SchemaOk_b1 D n (fun x1_0 x1_1=>LQ funcTab D n 16 [.r,.r,.r,.l,.r,.l] m (spec_SchemaOk_Q1 x1_0 x1_1) K) (fun v0_0=>K (Ex.ret) (spec_SchemaOk_Q1_0 v0_0)) (K (Ex.exit 2) (spec_SchemaOk_Q1_1)) x1_0 x1_1:=by kernel_rfl
theorem spec_SchemaOk_EL1 (D:DX)(n:Nat) (K:Ex→St→Option (Out ctx 16)):∀ (m:Nat) (x1_0:Int) (x1_1:tSch),LQ funcTab D n 16 [.r,.r,.r,.l,.r,.l] m (spec_SchemaOk_Q1 x1_0 x1_1) K=spec_SchemaOk_L1 D n (fun v0_0=>K (Ex.ret) (spec_SchemaOk_Q1_0 v0_0)) (K (Ex.exit 2) (spec_SchemaOk_Q1_1)) m x1_0 x1_1
  | 0,x1_0,x1_1=>LQ_zero ..
  | m+1,x1_0,x1_1=>by
    have ih:(fun x1_0 x1_1=>LQ funcTab D n 16 [.r,.r,.r,.l,.r,.l] m (spec_SchemaOk_Q1 x1_0 x1_1) K)=spec_SchemaOk_L1 D n (fun v0_0=>K (Ex.ret) (spec_SchemaOk_Q1_0 v0_0)) (K (Ex.exit 2) (spec_SchemaOk_Q1_1)) m:=by funext x1_0 x1_1;exact spec_SchemaOk_EL1 D n K m x1_0 x1_1
    rw[spec_SchemaOk_SB1]
    rw[ih];rfl
theorem spec_SchemaOk_X1_0 (D:DX)(n:Nat) (v0_0:Bool) :
  (CQ funcTab D n 16 [] [.r,.r,.r,.l,.r,.l] (lastK funcTab 16)) (Ex.ret) (spec_SchemaOk_Q1_0 v0_0)=spec_SchemaOk_x1_0 D n v0_0:=by kernel_rfl
theorem spec_SchemaOk_X1_1 (D:DX)(n:Nat) :
  (CQ funcTab D n 16 [] [.r,.r,.r,.l,.r,.l] (lastK funcTab 16)) (Ex.exit 2) (spec_SchemaOk_Q1_1)=spec_SchemaOk_x1_1 D n:=by kernel_rfl
theorem spec_SchemaOk_ELP1 (D:DX)(n:Nat) (x1_0:Int) (x1_1:tSch) :
  LQ funcTab D n 16 [.r,.r,.r,.l,.r,.l] n (spec_SchemaOk_Q1 x1_0 x1_1) (CQ funcTab D n 16 [] [.r,.r,.r,.l,.r,.l] (lastK funcTab 16))=spec_SchemaOk_LP1 D n x1_0 x1_1:=by
  rw[spec_SchemaOk_EL1]
  simp only[spec_SchemaOk_X1_0,spec_SchemaOk_X1_1]
  rfl
theorem spec_SchemaOk_X0_0 (D:DX)(n:Nat) (v0_0:Bool) (v0_1:tSch) :
  (CQ funcTab D n 16 [] [.r,.l,.r,.l] (lastK funcTab 16)) (Ex.ret) (spec_SchemaOk_Q0_0 v0_0 v0_1)=spec_SchemaOk_x0_0 D n v0_0 v0_1:=by kernel_rfl
theorem spec_SchemaOk_X0_1 (D:DX)(n:Nat) (v1_0:tSch) :
  (CQ funcTab D n 16 [] [.r,.l,.r,.l] (lastK funcTab 16)) (Ex.exit 0) (spec_SchemaOk_Q0_1 v1_0)=spec_SchemaOk_x0_1 D n (fun x1_0 x1_1=>LQ funcTab D n 16 [.r,.r,.r,.l,.r,.l] n (spec_SchemaOk_Q1 x1_0 x1_1) (CQ funcTab D n 16 [] [.r,.r,.r,.l,.r,.l] (lastK funcTab 16))) v1_0:=by kernel_rfl
theorem spec_SchemaOk_ELP0 (D:DX)(n:Nat) (x0:Int) (x1:tSch) :
  LQ funcTab D n 16 [.r,.l,.r,.l] n (spec_SchemaOk_Q0 x0 x1) (CQ funcTab D n 16 [] [.r,.l,.r,.l] (lastK funcTab 16))=spec_SchemaOk_LP0 D n x0 x1:=by
  rw[spec_SchemaOk_EL0]
  simp only[spec_SchemaOk_X0_0,spec_SchemaOk_X0_1,spec_SchemaOk_ELP1]
  rfl
theorem E_spec_SchemaOk (D:DX)(n:Nat) (a0:tSch):rfC funcTab D n 16 (a0,())=F_spec_SchemaOk D n a0:=by
  have h:rfC funcTab D n 16 (a0,())=spec_SchemaOk_e D n (fun x0 x1=>LQ funcTab D n 16 [.r,.l,.r,.l] n (spec_SchemaOk_Q0 x0 x1) (CQ funcTab D n 16 [] [.r,.l,.r,.l] (lastK funcTab 16))) a0:=by kernel_rfl
  rw[h]
  simp only[spec_SchemaOk_ELP0]
  rfl


def impl_SchemaOk_b0 (D:DX)(n:Nat) (go:tCols→Int→Int→tSch→Option ((Bool×Unit)×Unit)) (K0:Bool→tSch→Option ((Bool×Unit)×Unit)) (K1:tSch→Option ((Bool×Unit)×Unit)) (x0:tCols) (x1:Int) (x2:Int) (x3:tSch):Option ((Bool×Unit)×Unit):=br (decide (x2<x1)) (br (decide (0≤x2)&&decide (x2<(↑(List.length x0):Int))) (bindD (C_impl_ColNameOk D (Prod.fst (List.getD x0 (Int.toNat x2) (ByteArray.empty,0,false,())))) fun b↦br (!Prod.fst (Prod.fst b)) (K0 false x3) (bindD (C_impl_from D (Prod.fst (Prod.snd (List.getD x0 (Int.toNat x2) (ByteArray.empty,0,false,())))) 1 3) fun b↦br (!Prod.fst (Prod.fst b)) (K0 false x3) (bindD (C_impl_ColAt D x3 (Prod.fst (List.getD x0 (Int.toNat x2) (ByteArray.empty,0,false,())))) fun b↦br (Prod.fst (Prod.fst b) != x2) (K0 false x3) (go x0 x1 (IntKind.wrap IntKind.i64 (x2+1)) x3)))) none) (K1 x3)
def impl_SchemaOk_L0 (D:DX)(n:Nat) (K0:Bool→tSch→Option ((Bool×Unit)×Unit)) (K1:tSch→Option ((Bool×Unit)×Unit)):Nat→(tCols)→(Int)→(Int)→(tSch)→Option ((Bool×Unit)×Unit) | 0=>(fun x0 x1 x2 x3=>none) | m+1=>(fun x0 x1 x2 x3=>impl_SchemaOk_b0 D n (impl_SchemaOk_L0 D n K0 K1 m) K0 K1 x0 x1 x2 x3)
def impl_SchemaOk_x0_0 (D:DX)(n:Nat) (v0_0:Bool) (v0_1:tSch):Option ((Bool×Unit)×Unit):=some ((v0_0,()),())
def impl_SchemaOk_b1 (D:DX)(n:Nat) (go:tIxs→Int→Int→tSch→Option ((Bool×Unit)×Unit)) (K0:Bool→tSch→Option ((Bool×Unit)×Unit)) (K1:tSch→Option ((Bool×Unit)×Unit)) (x1_0:tIxs) (x1_1:Int) (x1_2:Int) (x1_3:tSch):Option ((Bool×Unit)×Unit):=br (decide (x1_2<x1_1)) (br (decide (0≤x1_2)&&decide (x1_2<(↑(List.length x1_0):Int))) (bindD (C_impl_ColNameOk D (Prod.fst (List.getD x1_0 (Int.toNat x1_2) (ByteArray.empty,[],false,())))) fun b↦br (!Prod.fst (Prod.fst b)) (K0 false x1_3) (bindD (C_impl_placesOk D x1_3 (Prod.fst (Prod.snd (List.getD x1_0 (Int.toNat x1_2) (ByteArray.empty,[],false,())))) 3) fun b↦br (!Prod.fst (Prod.fst b)) (K0 false x1_3) (br (decide (0≤0)&&decide (0≤x1_2)&&decide (x1_2≤(↑(List.length (Prod.fst (Prod.snd (Prod.snd x1_3)))):Int))) (bindD (C_slices_ContainsFunc_impl_Index_impl_Index D (List.drop (Int.toNat 0) (List.take (Int.toNat x1_2) (Prod.fst (Prod.snd (Prod.snd x1_3))))) (Clo.mk 82 [CapV.rptr (Ty.pair Ty.str (Ty.pair (Ty.sl (Ty.int IntKind.i64)) (Ty.pair Ty.bool Ty.unit))) (List.getD x1_0 (Int.toNat x1_2) (ByteArray.empty,[],false,()))])) fun b↦br (Prod.fst (Prod.fst b)) (K0 false x1_3) (go x1_0 x1_1 (IntKind.wrap IntKind.i64 (x1_2+1)) x1_3)) none))) none) (K1 x1_3)
def impl_SchemaOk_L1 (D:DX)(n:Nat) (K0:Bool→tSch→Option ((Bool×Unit)×Unit)) (K1:tSch→Option ((Bool×Unit)×Unit)):Nat→(tIxs)→(Int)→(Int)→(tSch)→Option ((Bool×Unit)×Unit) | 0=>(fun x1_0 x1_1 x1_2 x1_3=>none) | m+1=>(fun x1_0 x1_1 x1_2 x1_3=>impl_SchemaOk_b1 D n (impl_SchemaOk_L1 D n K0 K1 m) K0 K1 x1_0 x1_1 x1_2 x1_3)
def impl_SchemaOk_x1_0 (D:DX)(n:Nat) (v0_0:Bool) (v0_1:tSch):Option ((Bool×Unit)×Unit):=some ((v0_0,()),())
def impl_SchemaOk_x1_1 (D:DX)(n:Nat) (v1_0:tSch):Option ((Bool×Unit)×Unit):=bindD (C_impl_from D (↑(List.length (Prod.fst v1_0)):Int) 1 5) fun b↦br (Prod.fst (Prod.fst b)) (bindD (C_impl_placesOk D v1_0 (Prod.fst (Prod.snd v1_0)) 4) fun b↦br (Prod.fst (Prod.fst b)) (bindD (C_slices_ContainsFunc_int_int D (Prod.fst (Prod.snd v1_0)) (Clo.mk 84 [CapV.rptr (Ty.pair (Ty.sl (Ty.pair Ty.str (Ty.pair (Ty.int IntKind.i64) (Ty.pair Ty.bool Ty.unit)))) (Ty.pair (Ty.sl (Ty.int IntKind.i64)) (Ty.pair (Ty.sl (Ty.pair Ty.str (Ty.pair (Ty.sl (Ty.int IntKind.i64)) (Ty.pair Ty.bool Ty.unit)))) Ty.unit))) v1_0])) fun b↦some ((bif !Prod.fst (Prod.fst b) then decide ((↑(List.length (Prod.fst (Prod.snd (Prod.snd v1_0)))):Int)≤3) else false,()),())) (some ((false,()),()))) (some ((false,()),()))
def impl_SchemaOk_LP1 (D:DX)(n:Nat):(tIxs)→(Int)→(Int)→(tSch)→Option ((Bool×Unit)×Unit):=(fun x1_0 x1_1 x1_2 x1_3=>impl_SchemaOk_L1 D n (fun v0_0 v0_1=>impl_SchemaOk_x1_0 D n v0_0 v0_1) (fun v1_0=>impl_SchemaOk_x1_1 D n v1_0) n x1_0 x1_1 x1_2 x1_3)
def impl_SchemaOk_x0_1 (D:DX)(n:Nat) (lp1:tIxs→Int→Int→tSch→Option ((Bool×Unit)×Unit)) (v1_0:tSch):Option ((Bool×Unit)×Unit):=lp1 (Prod.fst (Prod.snd (Prod.snd v1_0))) (↑(List.length (Prod.fst (Prod.snd (Prod.snd v1_0)))):Int) 0 v1_0
def impl_SchemaOk_LP0 (D:DX)(n:Nat):(tCols)→(Int)→(Int)→(tSch)→Option ((Bool×Unit)×Unit):=(fun x0 x1 x2 x3=>impl_SchemaOk_L0 D n (fun v0_0 v0_1=>impl_SchemaOk_x0_0 D n v0_0 v0_1) (fun v1_0=>impl_SchemaOk_x0_1 D n (impl_SchemaOk_LP1 D n) v1_0) n x0 x1 x2 x3)
def impl_SchemaOk_e (D:DX)(n:Nat) (lp0:tCols→Int→Int→tSch→Option ((Bool×Unit)×Unit)) (a0:tSch):Option ((Bool×Unit)×Unit):=lp0 (Prod.fst a0) (↑(List.length (Prod.fst a0)):Int) 0 a0
def F_impl_SchemaOk (D:DX)(n:Nat) (a0:tSch):Option ((Bool×Unit)×Unit):=impl_SchemaOk_e D n (impl_SchemaOk_LP0 D n) a0
def impl_SchemaOk_Q0 (x0:tCols) (x1:Int) (x2:Int) (x3:tSch):St:=stq 85 [(1,AV.addr 1 []),(8,AV.val (Ty.sl yC) x0),(9,avI x1),(10,avI x2)] [(1,Root.mk yS Mk.no x3 true)] 
def impl_SchemaOk_Q0_0 (v0_0:Bool) (v0_1:tSch):St:=stq 85 [(1,AV.addr 1 []),(2,AV.val Ty.bool v0_0)] [(1,Root.mk yS Mk.no v0_1 true)] 
def impl_SchemaOk_Q0_1 (v1_0:tSch):St:=stq 85 [(1,AV.addr 1 [])] [(1,Root.mk yS Mk.no v1_0 true)] 
def impl_SchemaOk_Q1 (x1_0:tIxs) (x1_1:Int) (x1_2:Int) (x1_3:tSch):St:=stq 85 [(1,AV.addr 1 []),(35,AV.val (Ty.sl yX) x1_0),(36,avI x1_1),(37,avI x1_2)] [(1,Root.mk yS Mk.no x1_3 true)] 
def impl_SchemaOk_Q1_0 (v0_0:Bool) (v0_1:tSch):St:=stq 85 [(1,AV.addr 1 []),(2,AV.val Ty.bool v0_0)] [(1,Root.mk yS Mk.no v0_1 true)] 
def impl_SchemaOk_Q1_1 (v1_0:tSch):St:=stq 85 [(1,AV.addr 1 [])] [(1,Root.mk yS Mk.no v1_0 true)] 
theorem impl_SchemaOk_SB0 (D:DX)(n:Nat) (m:Nat) (K:Ex→St→Option (Out ctx 18)) (x0:tCols) (x1:Int) (x2:Int) (x3:tSch) :
  LQ funcTab D n 18 [.r,.l,.r,.l] (m+1) (impl_SchemaOk_Q0 x0 x1 x2 x3) K=impl_SchemaOk_b0 D n (fun x0 x1 x2 x3=>LQ funcTab D n 18 [.r,.l,.r,.l] m (impl_SchemaOk_Q0 x0 x1 x2 x3) K) (fun v0_0 v0_1=>K (Ex.ret) (impl_SchemaOk_Q0_0 v0_0 v0_1)) (fun v1_0=>K (Ex.exit 0) (impl_SchemaOk_Q0_1 v1_0)) x0 x1 x2 x3:=by kernel_rfl
theorem impl_SchemaOk_EL0 (D:DX)(n:Nat) (K:Ex→St→Option (Out ctx 18)):∀ (m:Nat) (x0:tCols) (x1:Int) (x2:Int) (x3:tSch),LQ funcTab D n 18 [.r,.l,.r,.l] m (impl_SchemaOk_Q0 x0 x1 x2 x3) K=impl_SchemaOk_L0 D n (fun v0_0 v0_1=>K (Ex.ret) (impl_SchemaOk_Q0_0 v0_0 v0_1)) (fun v1_0=>K (Ex.exit 0) (impl_SchemaOk_Q0_1 v1_0)) m x0 x1 x2 x3
  | 0,x0,x1,x2,x3=>LQ_zero ..
  | m+1,x0,x1,x2,x3=>by
    have ih:(fun x0 x1 x2 x3=>LQ funcTab D n 18 [.r,.l,.r,.l] m (impl_SchemaOk_Q0 x0 x1 x2 x3) K)=impl_SchemaOk_L0 D n (fun v0_0 v0_1=>K (Ex.ret) (impl_SchemaOk_Q0_0 v0_0 v0_1)) (fun v1_0=>K (Ex.exit 0) (impl_SchemaOk_Q0_1 v1_0)) m:=by funext x0 x1 x2 x3;exact impl_SchemaOk_EL0 D n K m x0 x1 x2 x3
    rw[impl_SchemaOk_SB0]
    rw[ih];rfl
theorem impl_SchemaOk_SB1 (D:DX)(n:Nat) (m:Nat) (K:Ex→St→Option (Out ctx 18)) (x1_0:tIxs) (x1_1:Int) (x1_2:Int) (x1_3:tSch) :
  LQ funcTab D n 18 [.r,.r,.l,.r,.l] (m+1) (impl_SchemaOk_Q1 x1_0 x1_1 x1_2 x1_3) K=impl_SchemaOk_b1 D n (fun x1_0 x1_1 x1_2 x1_3=>LQ funcTab D n 18 [.r,.r,.l,.r,.l] m (impl_SchemaOk_Q1 x1_0 x1_1 x1_2 x1_3) K) (fun v0_0 v0_1=>K (Ex.ret) (impl_SchemaOk_Q1_0 v0_0 v0_1)) (fun v1_0=>K (Ex.exit 2) (impl_SchemaOk_Q1_1 v1_0)) x1_0 x1_1 x1_2 x1_3:=by kernel_rfl
theorem impl_SchemaOk_EL1 (D:DX)(n:Nat) (K:Ex→St→Option (Out ctx 18)):∀ (m:Nat) (x1_0:tIxs) (x1_1:Int) (x1_2:Int) (x1_3:tSch),LQ funcTab D n 18 [.r,.r,.l,.r,.l] m (impl_SchemaOk_Q1 x1_0 x1_1 x1_2 x1_3) K=impl_SchemaOk_L1 D n (fun v0_0 v0_1=>K (Ex.ret) (impl_SchemaOk_Q1_0 v0_0 v0_1)) (fun v1_0=>K (Ex.exit 2) (impl_SchemaOk_Q1_1 v1_0)) m x1_0 x1_1 x1_2 x1_3
  | 0,x1_0,x1_1,x1_2,x1_3=>LQ_zero ..
  | m+1,x1_0,x1_1,x1_2,x1_3=>by
    have ih:(fun x1_0 x1_1 x1_2 x1_3=>LQ funcTab D n 18 [.r,.r,.l,.r,.l] m (impl_SchemaOk_Q1 x1_0 x1_1 x1_2 x1_3) K)=impl_SchemaOk_L1 D n (fun v0_0 v0_1=>K (Ex.ret) (impl_SchemaOk_Q1_0 v0_0 v0_1)) (fun v1_0=>K (Ex.exit 2) (impl_SchemaOk_Q1_1 v1_0)) m:=by funext x1_0 x1_1 x1_2 x1_3;exact impl_SchemaOk_EL1 D n K m x1_0 x1_1 x1_2 x1_3
    rw[impl_SchemaOk_SB1]
    rw[ih];rfl
theorem impl_SchemaOk_X1_0 (D:DX)(n:Nat) (v0_0:Bool) (v0_1:tSch) :
  (CQ funcTab D n 18 [] [.r,.r,.l,.r,.l] (lastK funcTab 18)) (Ex.ret) (impl_SchemaOk_Q1_0 v0_0 v0_1)=impl_SchemaOk_x1_0 D n v0_0 v0_1:=by kernel_rfl
theorem impl_SchemaOk_X1_1 (D:DX)(n:Nat) (v1_0:tSch) :
  (CQ funcTab D n 18 [] [.r,.r,.l,.r,.l] (lastK funcTab 18)) (Ex.exit 2) (impl_SchemaOk_Q1_1 v1_0)=impl_SchemaOk_x1_1 D n v1_0:=by kernel_rfl
theorem impl_SchemaOk_ELP1 (D:DX)(n:Nat) (x1_0:tIxs) (x1_1:Int) (x1_2:Int) (x1_3:tSch) :
  LQ funcTab D n 18 [.r,.r,.l,.r,.l] n (impl_SchemaOk_Q1 x1_0 x1_1 x1_2 x1_3) (CQ funcTab D n 18 [] [.r,.r,.l,.r,.l] (lastK funcTab 18))=impl_SchemaOk_LP1 D n x1_0 x1_1 x1_2 x1_3:=by
  rw[impl_SchemaOk_EL1]
  simp only[impl_SchemaOk_X1_0,impl_SchemaOk_X1_1]
  rfl
theorem impl_SchemaOk_X0_0 (D:DX)(n:Nat) (v0_0:Bool) (v0_1:tSch) :
  (CQ funcTab D n 18 [] [.r,.l,.r,.l] (lastK funcTab 18)) (Ex.ret) (impl_SchemaOk_Q0_0 v0_0 v0_1)=impl_SchemaOk_x0_0 D n v0_0 v0_1:=by kernel_rfl
theorem impl_SchemaOk_X0_1 (D:DX)(n:Nat) (v1_0:tSch) :
  (CQ funcTab D n 18 [] [.r,.l,.r,.l] (lastK funcTab 18)) (Ex.exit 0) (impl_SchemaOk_Q0_1 v1_0)=impl_SchemaOk_x0_1 D n (fun x1_0 x1_1 x1_2 x1_3=>LQ funcTab D n 18 [.r,.r,.l,.r,.l] n (impl_SchemaOk_Q1 x1_0 x1_1 x1_2 x1_3) (CQ funcTab D n 18 [] [.r,.r,.l,.r,.l] (lastK funcTab 18))) v1_0:=by kernel_rfl
theorem impl_SchemaOk_ELP0 (D:DX)(n:Nat) (x0:tCols) (x1:Int) (x2:Int) (x3:tSch) :
  LQ funcTab D n 18 [.r,.l,.r,.l] n (impl_SchemaOk_Q0 x0 x1 x2 x3) (CQ funcTab D n 18 [] [.r,.l,.r,.l] (lastK funcTab 18))=impl_SchemaOk_LP0 D n x0 x1 x2 x3:=by
  rw[impl_SchemaOk_EL0]
  simp only[impl_SchemaOk_X0_0,impl_SchemaOk_X0_1,impl_SchemaOk_ELP1]
  rfl
theorem E_impl_SchemaOk (D:DX)(n:Nat) (a0:tSch):rfC funcTab D n 18 (a0,())=F_impl_SchemaOk D n a0:=by
  have h:rfC funcTab D n 18 (a0,())=impl_SchemaOk_e D n (fun x0 x1 x2 x3=>LQ funcTab D n 18 [.r,.l,.r,.l] n (impl_SchemaOk_Q0 x0 x1 x2 x3) (CQ funcTab D n 18 [] [.r,.l,.r,.l] (lastK funcTab 18))) a0:=by kernel_rfl
  rw[h]
  simp only[impl_SchemaOk_ELP0]
  rfl


def laws_big_e (D:DX)(n:Nat) (a0:List Int):Option ((Bool×Unit)×Unit):=some ((decide ((↑(List.length a0):Int)>1048576),()),())
def F_laws_big (D:DX)(n:Nat) (a0:List Int):Option ((Bool×Unit)×Unit):=laws_big_e D n a0
theorem E_laws_big (D:DX)(n:Nat) (a0:List Int):rfC funcTab D n 20 (a0,())=F_laws_big D n a0:=by kernel_rfl

def impl_RowOk_b0 (D:DX)(n:Nat) (go:tVals→Int→Int→tSch→Option ((Bool×Unit)×Unit)) (K0:Bool→Option ((Bool×Unit)×Unit)) (K1:Option ((Bool×Unit)×Unit)) (x0:tVals) (x1:Int) (x2:Int) (x3:tSch):Option ((Bool×Unit)×Unit):=br (decide (x2<x1)) (br (decide (0≤x2)&&decide (x2<(↑(List.length x0):Int))) (br (decide (0≤x2)&&decide (x2<(↑(List.length (Prod.fst x3)):Int))) (bindD (C_impl_ValueOk D (List.getD x0 (Int.toNat x2) (0,0,ByteArray.empty,()))) fun b↦br (bif !Prod.fst (Prod.fst b) then true else bif Prod.fst (List.getD x0 (Int.toNat x2) (0,0,ByteArray.empty,())) != Prod.fst (Prod.snd (List.getD (Prod.fst x3) (Int.toNat x2) (ByteArray.empty,0,false,()))) then !bif decide (Prod.fst (List.getD x0 (Int.toNat x2) (0,0,ByteArray.empty,()))=0) then Prod.fst (Prod.snd (Prod.snd (List.getD (Prod.fst x3) (Int.toNat x2) (ByteArray.empty,0,false,())))) else false else false) (K0 false) (go x0 x1 (IntKind.wrap IntKind.i64 (x2+1)) x3)) none) none) K1
def impl_RowOk_L0 (D:DX)(n:Nat) (K0:Bool→Option ((Bool×Unit)×Unit)) (K1:Option ((Bool×Unit)×Unit)):Nat→(tVals)→(Int)→(Int)→(tSch)→Option ((Bool×Unit)×Unit) | 0=>(fun x0 x1 x2 x3=>none) | m+1=>(fun x0 x1 x2 x3=>impl_RowOk_b0 D n (impl_RowOk_L0 D n K0 K1 m) K0 K1 x0 x1 x2 x3)
def impl_RowOk_x0_0 (D:DX)(n:Nat) (v0_0:Bool):Option ((Bool×Unit)×Unit):=some ((v0_0,()),())
def impl_RowOk_x0_1 (D:DX)(n:Nat):Option ((Bool×Unit)×Unit):=some ((true,()),())
def impl_RowOk_LP0 (D:DX)(n:Nat):(tVals)→(Int)→(Int)→(tSch)→Option ((Bool×Unit)×Unit):=(fun x0 x1 x2 x3=>impl_RowOk_L0 D n (fun v0_0=>impl_RowOk_x0_0 D n v0_0) (impl_RowOk_x0_1 D n) n x0 x1 x2 x3)
def impl_RowOk_e (D:DX)(n:Nat) (lp0:tVals→Int→Int→tSch→Option ((Bool×Unit)×Unit)) (a0:tSch) (a1:tVals):Option ((Bool×Unit)×Unit):=bindD (C_impl_SchemaOk D a0) fun b↦br (bif !Prod.fst (Prod.fst b) then true else (↑(List.length a1):Int) != (↑(List.length (Prod.fst a0)):Int)) (some ((false,()),())) (lp0 a1 (↑(List.length a1):Int) 0 a0)
def F_impl_RowOk (D:DX)(n:Nat) (a0:tSch) (a1:tVals):Option ((Bool×Unit)×Unit):=impl_RowOk_e D n (impl_RowOk_LP0 D n) a0 a1
def impl_RowOk_Q0 (x0:tVals) (x1:Int) (x2:Int) (x3:tSch):St:=stq 52 [(2,AV.addr 2 []),(19,AV.val (Ty.sl yV) x0),(20,avI x1),(21,avI x2)] [(2,Root.mk yS Mk.no x3 true)] 
def impl_RowOk_Q0_0 (v0_0:Bool):St:=stq 52 [(4,AV.val Ty.bool v0_0)] [] 
def impl_RowOk_Q0_1:St:=stq 52 [] [] 
theorem impl_RowOk_SB0 (D:DX)(n:Nat) (m:Nat) (K:Ex→St→Option (Out ctx 26)) (x0:tVals) (x1:Int) (x2:Int) (x3:tSch) :
  LQ funcTab D n 26 [.r,.r,.l,.r,.l] (m+1) (impl_RowOk_Q0 x0 x1 x2 x3) K=impl_RowOk_b0 D n (fun x0 x1 x2 x3=>LQ funcTab D n 26 [.r,.r,.l,.r,.l] m (impl_RowOk_Q0 x0 x1 x2 x3) K) (fun v0_0=>K (Ex.ret) (impl_RowOk_Q0_0 v0_0)) (K (Ex.exit 0) (impl_RowOk_Q0_1)) x0 x1 x2 x3:=by kernel_rfl
theorem impl_RowOk_EL0 (D:DX)(n:Nat) (K:Ex→St→Option (Out ctx 26)):∀ (m:Nat) (x0:tVals) (x1:Int) (x2:Int) (x3:tSch),LQ funcTab D n 26 [.r,.r,.l,.r,.l] m (impl_RowOk_Q0 x0 x1 x2 x3) K=impl_RowOk_L0 D n (fun v0_0=>K (Ex.ret) (impl_RowOk_Q0_0 v0_0)) (K (Ex.exit 0) (impl_RowOk_Q0_1)) m x0 x1 x2 x3
  | 0,x0,x1,x2,x3=>LQ_zero ..
  | m+1,x0,x1,x2,x3=>by
    have ih:(fun x0 x1 x2 x3=>LQ funcTab D n 26 [.r,.r,.l,.r,.l] m (impl_RowOk_Q0 x0 x1 x2 x3) K)=impl_RowOk_L0 D n (fun v0_0=>K (Ex.ret) (impl_RowOk_Q0_0 v0_0)) (K (Ex.exit 0) (impl_RowOk_Q0_1)) m:=by funext x0 x1 x2 x3;exact impl_RowOk_EL0 D n K m x0 x1 x2 x3
    rw[impl_RowOk_SB0]
    rw[ih];rfl
theorem impl_RowOk_X0_0 (D:DX)(n:Nat) (v0_0:Bool) :
  (CQ funcTab D n 26 [] [.r,.r,.l,.r,.l] (lastK funcTab 26)) (Ex.ret) (impl_RowOk_Q0_0 v0_0)=impl_RowOk_x0_0 D n v0_0:=by kernel_rfl
theorem impl_RowOk_X0_1 (D:DX)(n:Nat) :
  (CQ funcTab D n 26 [] [.r,.r,.l,.r,.l] (lastK funcTab 26)) (Ex.exit 0) (impl_RowOk_Q0_1)=impl_RowOk_x0_1 D n:=by kernel_rfl
theorem impl_RowOk_ELP0 (D:DX)(n:Nat) (x0:tVals) (x1:Int) (x2:Int) (x3:tSch) :
  LQ funcTab D n 26 [.r,.r,.l,.r,.l] n (impl_RowOk_Q0 x0 x1 x2 x3) (CQ funcTab D n 26 [] [.r,.r,.l,.r,.l] (lastK funcTab 26))=impl_RowOk_LP0 D n x0 x1 x2 x3:=by
  rw[impl_RowOk_EL0]
  simp only[impl_RowOk_X0_0,impl_RowOk_X0_1]
  rfl
theorem E_impl_RowOk (D:DX)(n:Nat) (a0:tSch) (a1:tVals):rfC funcTab D n 26 (a0,(a1,()))=F_impl_RowOk D n a0 a1:=by
  have h:rfC funcTab D n 26 (a0,(a1,()))=impl_RowOk_e D n (fun x0 x1 x2 x3=>LQ funcTab D n 26 [.r,.r,.l,.r,.l] n (impl_RowOk_Q0 x0 x1 x2 x3) (CQ funcTab D n 26 [] [.r,.r,.l,.r,.l] (lastK funcTab 26))) a0 a1:=by kernel_rfl
  rw[h]
  simp only[impl_RowOk_ELP0]
  rfl

def spec_RowOk_b0 (D:DX)(n:Nat) (go:tVals→Int→tSch→Option ((Bool×Unit)×Unit)) (K0:Bool→Option ((Bool×Unit)×Unit)) (K1:Option ((Bool×Unit)×Unit)) (x0:tVals) (x1:Int) (x2:tSch):Option ((Bool×Unit)×Unit):=br (decide (x1<(↑(List.length x0):Int))) (br (decide (0≤x1)&&decide (x1<(↑(List.length x0):Int))) (bindD (C_spec_ValueOk D (List.getD x0 (Int.toNat x1) (0,0,ByteArray.empty,()))) fun b↦br (!Prod.fst (Prod.fst b)) (K0 false) (br (decide (0≤x1)&&decide (x1<(↑(List.length x0):Int))) (br (decide (0≤x1)&&decide (x1<(↑(List.length (Prod.fst x2)):Int))) (br (Prod.fst (List.getD x0 (Int.toNat x1) (0,0,ByteArray.empty,())) != Prod.fst (Prod.snd (List.getD (Prod.fst x2) (Int.toNat x1) (ByteArray.empty,0,false,())))) (br (decide (0≤x1)&&decide (x1<(↑(List.length (Prod.fst x2)):Int))) (br (Prod.fst (Prod.snd (Prod.snd (List.getD (Prod.fst x2) (Int.toNat x1) (ByteArray.empty,0,false,()))))) (br (decide (0≤x1)&&decide (x1<(↑(List.length x0):Int))) (br (!decide (Prod.fst (List.getD x0 (Int.toNat x1) (0,0,ByteArray.empty,()))=0)) (K0 false) (go x0 (IntKind.wrap IntKind.i64 (x1+1)) x2)) none) (K0 false)) none) (go x0 (IntKind.wrap IntKind.i64 (x1+1)) x2)) none) none)) none) K1
def spec_RowOk_L0 (D:DX)(n:Nat) (K0:Bool→Option ((Bool×Unit)×Unit)) (K1:Option ((Bool×Unit)×Unit)):Nat→(tVals)→(Int)→(tSch)→Option ((Bool×Unit)×Unit) | 0=>(fun x0 x1 x2=>none) | m+1=>(fun x0 x1 x2=>spec_RowOk_b0 D n (spec_RowOk_L0 D n K0 K1 m) K0 K1 x0 x1 x2)
def spec_RowOk_x0_0 (D:DX)(n:Nat) (v0_0:Bool):Option ((Bool×Unit)×Unit):=some ((v0_0,()),())
def spec_RowOk_x0_1 (D:DX)(n:Nat):Option ((Bool×Unit)×Unit):=some ((true,()),())
def spec_RowOk_LP0 (D:DX)(n:Nat):(tVals)→(Int)→(tSch)→Option ((Bool×Unit)×Unit):=(fun x0 x1 x2=>spec_RowOk_L0 D n (fun v0_0=>spec_RowOk_x0_0 D n v0_0) (spec_RowOk_x0_1 D n) n x0 x1 x2)
def spec_RowOk_e (D:DX)(n:Nat) (lp0:tVals→Int→tSch→Option ((Bool×Unit)×Unit)) (a0:tSch) (a1:tVals):Option ((Bool×Unit)×Unit):=bindD (C_spec_SchemaOk D a0) fun b↦br (bif !Prod.fst (Prod.fst b) then true else (↑(List.length a1):Int) != (↑(List.length (Prod.fst a0)):Int)) (some ((false,()),())) (lp0 a1 0 a0)
def F_spec_RowOk (D:DX)(n:Nat) (a0:tSch) (a1:tVals):Option ((Bool×Unit)×Unit):=spec_RowOk_e D n (spec_RowOk_LP0 D n) a0 a1
def spec_RowOk_Q0 (x0:tVals) (x1:Int) (x2:tSch):St:=stq 60 [(1,AV.val (Ty.sl yV) x0),(2,AV.addr 2 []),(5,avI x1)] [(2,Root.mk yS Mk.no x2 true)] 
def spec_RowOk_Q0_0 (v0_0:Bool):St:=stq 60 [(4,AV.val Ty.bool v0_0)] [] 
def spec_RowOk_Q0_1:St:=stq 60 [] [] 
theorem spec_RowOk_SB0 (D:DX)(n:Nat) (m:Nat) (K:Ex→St→Option (Out ctx 27)) (x0:tVals) (x1:Int) (x2:tSch) :
  LQ funcTab D n 27 [.r,.r,.l,.r,.l] (m+1) (spec_RowOk_Q0 x0 x1 x2) K=spec_RowOk_b0 D n (fun x0 x1 x2=>LQ funcTab D n 27 [.r,.r,.l,.r,.l] m (spec_RowOk_Q0 x0 x1 x2) K) (fun v0_0=>K (Ex.ret) (spec_RowOk_Q0_0 v0_0)) (K (Ex.exit 0) (spec_RowOk_Q0_1)) x0 x1 x2:=by kernel_rfl
theorem spec_RowOk_EL0 (D:DX)(n:Nat) (K:Ex→St→Option (Out ctx 27)):∀ (m:Nat) (x0:tVals) (x1:Int) (x2:tSch),LQ funcTab D n 27 [.r,.r,.l,.r,.l] m (spec_RowOk_Q0 x0 x1 x2) K=spec_RowOk_L0 D n (fun v0_0=>K (Ex.ret) (spec_RowOk_Q0_0 v0_0)) (K (Ex.exit 0) (spec_RowOk_Q0_1)) m x0 x1 x2
  | 0,x0,x1,x2=>LQ_zero ..
  | m+1,x0,x1,x2=>by
    have ih:(fun x0 x1 x2=>LQ funcTab D n 27 [.r,.r,.l,.r,.l] m (spec_RowOk_Q0 x0 x1 x2) K)=spec_RowOk_L0 D n (fun v0_0=>K (Ex.ret) (spec_RowOk_Q0_0 v0_0)) (K (Ex.exit 0) (spec_RowOk_Q0_1)) m:=by funext x0 x1 x2;exact spec_RowOk_EL0 D n K m x0 x1 x2
    rw[spec_RowOk_SB0]
    rw[ih];rfl
theorem spec_RowOk_X0_0 (D:DX)(n:Nat) (v0_0:Bool) :
  (CQ funcTab D n 27 [] [.r,.r,.l,.r,.l] (lastK funcTab 27)) (Ex.ret) (spec_RowOk_Q0_0 v0_0)=spec_RowOk_x0_0 D n v0_0:=by kernel_rfl
theorem spec_RowOk_X0_1 (D:DX)(n:Nat) :
  (CQ funcTab D n 27 [] [.r,.r,.l,.r,.l] (lastK funcTab 27)) (Ex.exit 0) (spec_RowOk_Q0_1)=spec_RowOk_x0_1 D n:=by kernel_rfl
theorem spec_RowOk_ELP0 (D:DX)(n:Nat) (x0:tVals) (x1:Int) (x2:tSch) :
  LQ funcTab D n 27 [.r,.r,.l,.r,.l] n (spec_RowOk_Q0 x0 x1 x2) (CQ funcTab D n 27 [] [.r,.r,.l,.r,.l] (lastK funcTab 27))=spec_RowOk_LP0 D n x0 x1 x2:=by
  rw[spec_RowOk_EL0]
  simp only[spec_RowOk_X0_0,spec_RowOk_X0_1]
  rfl
theorem E_spec_RowOk (D:DX)(n:Nat) (a0:tSch) (a1:tVals):rfC funcTab D n 27 (a0,(a1,()))=F_spec_RowOk D n a0 a1:=by
  have h:rfC funcTab D n 27 (a0,(a1,()))=spec_RowOk_e D n (fun x0 x1 x2=>LQ funcTab D n 27 [.r,.r,.l,.r,.l] n (spec_RowOk_Q0 x0 x1 x2) (CQ funcTab D n 27 [] [.r,.r,.l,.r,.l] (lastK funcTab 27))) a0 a1:=by kernel_rfl
  rw[h]
  simp only[spec_RowOk_ELP0]
  rfl

def impl_ColNameOk_b0 (D:DX)(n:Nat) (go:ByteArray→Int→Int→Option ((Bool×Unit)×Unit)) (K0:ByteArray→Bool→Option ((Bool×Unit)×Unit)) (K1:ByteArray→Option ((Bool×Unit)×Unit)) (x0:ByteArray) (x1:Int) (x2:Int):Option ((Bool×Unit)×Unit):=br (decide (x2<x1)) (br (decide (0≤x2)&&decide (x2<(↑(ByteArray.size x0):Int))) (br (decide ((↑(UInt8.toNat (Array.getD (ByteArray.data x0) (Int.toNat x2) (UInt8.ofNat 0))):Int)<97)) (K0 x0 false) (br (decide (0≤x2)&&decide (x2<(↑(ByteArray.size x0):Int))) (br (decide ((↑(UInt8.toNat (Array.getD (ByteArray.data x0) (Int.toNat x2) (UInt8.ofNat 0))):Int)>122)) (K0 x0 false) (go x0 x1 (IntKind.wrap IntKind.i64 (x2+1)))) none)) none) (K1 x0)
def impl_ColNameOk_L0 (D:DX)(n:Nat) (K0:ByteArray→Bool→Option ((Bool×Unit)×Unit)) (K1:ByteArray→Option ((Bool×Unit)×Unit)):Nat→(ByteArray)→(Int)→(Int)→Option ((Bool×Unit)×Unit) | 0=>(fun x0 x1 x2=>none) | m+1=>(fun x0 x1 x2=>impl_ColNameOk_b0 D n (impl_ColNameOk_L0 D n K0 K1 m) K0 K1 x0 x1 x2)
def impl_ColNameOk_x0_0 (D:DX)(n:Nat) (v0_0:ByteArray) (v0_1:Bool):Option ((Bool×Unit)×Unit):=some ((v0_1,()),())
def impl_ColNameOk_x0_1 (D:DX)(n:Nat) (v1_0:ByteArray):Option ((Bool×Unit)×Unit):=bindD (C_impl_from D (↑(ByteArray.size v1_0):Int) 1 12) fun b↦some ((Prod.fst (Prod.fst b),()),())
def impl_ColNameOk_LP0 (D:DX)(n:Nat):(ByteArray)→(Int)→(Int)→Option ((Bool×Unit)×Unit):=(fun x0 x1 x2=>impl_ColNameOk_L0 D n (fun v0_0 v0_1=>impl_ColNameOk_x0_0 D n v0_0 v0_1) (fun v1_0=>impl_ColNameOk_x0_1 D n v1_0) n x0 x1 x2)
def impl_ColNameOk_e (D:DX)(n:Nat) (lp0:ByteArray→Int→Int→Option ((Bool×Unit)×Unit)) (a0:ByteArray):Option ((Bool×Unit)×Unit):=lp0 a0 (↑(ByteArray.size a0):Int) 0
def F_impl_ColNameOk (D:DX)(n:Nat) (a0:ByteArray):Option ((Bool×Unit)×Unit):=impl_ColNameOk_e D n (impl_ColNameOk_LP0 D n) a0
def impl_ColNameOk_Q0 (x0:ByteArray) (x1:Int) (x2:Int):St:=stq 23 [(0,AV.val Ty.str x0),(5,avI x1),(6,avI x2)] [] 
def impl_ColNameOk_Q0_0 (v0_0:ByteArray) (v0_1:Bool):St:=stq 23 [(0,AV.val Ty.str v0_0),(2,AV.val Ty.bool v0_1)] [] 
def impl_ColNameOk_Q0_1 (v1_0:ByteArray):St:=stq 23 [(0,AV.val Ty.str v1_0)] [] 
theorem impl_ColNameOk_SB0 (D:DX)(n:Nat) (m:Nat) (K:Ex→St→Option (Out ctx 28)) (x0:ByteArray) (x1:Int) (x2:Int) :
  LQ funcTab D n 28 [.r,.l,.r,.l] (m+1) (impl_ColNameOk_Q0 x0 x1 x2) K=impl_ColNameOk_b0 D n (fun x0 x1 x2=>LQ funcTab D n 28 [.r,.l,.r,.l] m (impl_ColNameOk_Q0 x0 x1 x2) K) (fun v0_0 v0_1=>K (Ex.ret) (impl_ColNameOk_Q0_0 v0_0 v0_1)) (fun v1_0=>K (Ex.exit 0) (impl_ColNameOk_Q0_1 v1_0)) x0 x1 x2:=by kernel_rfl
theorem impl_ColNameOk_EL0 (D:DX)(n:Nat) (K:Ex→St→Option (Out ctx 28)):∀ (m:Nat) (x0:ByteArray) (x1:Int) (x2:Int),LQ funcTab D n 28 [.r,.l,.r,.l] m (impl_ColNameOk_Q0 x0 x1 x2) K=impl_ColNameOk_L0 D n (fun v0_0 v0_1=>K (Ex.ret) (impl_ColNameOk_Q0_0 v0_0 v0_1)) (fun v1_0=>K (Ex.exit 0) (impl_ColNameOk_Q0_1 v1_0)) m x0 x1 x2
  | 0,x0,x1,x2=>LQ_zero ..
  | m+1,x0,x1,x2=>by
    have ih:(fun x0 x1 x2=>LQ funcTab D n 28 [.r,.l,.r,.l] m (impl_ColNameOk_Q0 x0 x1 x2) K)=impl_ColNameOk_L0 D n (fun v0_0 v0_1=>K (Ex.ret) (impl_ColNameOk_Q0_0 v0_0 v0_1)) (fun v1_0=>K (Ex.exit 0) (impl_ColNameOk_Q0_1 v1_0)) m:=by funext x0 x1 x2;exact impl_ColNameOk_EL0 D n K m x0 x1 x2
    rw[impl_ColNameOk_SB0]
    rw[ih];rfl
theorem impl_ColNameOk_X0_0 (D:DX)(n:Nat) (v0_0:ByteArray) (v0_1:Bool) :
  (CQ funcTab D n 28 [] [.r,.l,.r,.l] (lastK funcTab 28)) (Ex.ret) (impl_ColNameOk_Q0_0 v0_0 v0_1)=impl_ColNameOk_x0_0 D n v0_0 v0_1:=by kernel_rfl
theorem impl_ColNameOk_X0_1 (D:DX)(n:Nat) (v1_0:ByteArray) :
  (CQ funcTab D n 28 [] [.r,.l,.r,.l] (lastK funcTab 28)) (Ex.exit 0) (impl_ColNameOk_Q0_1 v1_0)=impl_ColNameOk_x0_1 D n v1_0:=by kernel_rfl
theorem impl_ColNameOk_ELP0 (D:DX)(n:Nat) (x0:ByteArray) (x1:Int) (x2:Int) :
  LQ funcTab D n 28 [.r,.l,.r,.l] n (impl_ColNameOk_Q0 x0 x1 x2) (CQ funcTab D n 28 [] [.r,.l,.r,.l] (lastK funcTab 28))=impl_ColNameOk_LP0 D n x0 x1 x2:=by
  rw[impl_ColNameOk_EL0]
  simp only[impl_ColNameOk_X0_0,impl_ColNameOk_X0_1]
  rfl
theorem E_impl_ColNameOk (D:DX)(n:Nat) (a0:ByteArray):rfC funcTab D n 28 (a0,())=F_impl_ColNameOk D n a0:=by
  have h:rfC funcTab D n 28 (a0,())=impl_ColNameOk_e D n (fun x0 x1 x2=>LQ funcTab D n 28 [.r,.l,.r,.l] n (impl_ColNameOk_Q0 x0 x1 x2) (CQ funcTab D n 28 [] [.r,.l,.r,.l] (lastK funcTab 28))) a0:=by kernel_rfl
  rw[h]
  simp only[impl_ColNameOk_ELP0]
  rfl

def spec_ColNameOk_b0 (D:DX)(n:Nat) (go:ByteArray→Int→Option ((Bool×Unit)×Unit)) (K0:ByteArray→Bool→Option ((Bool×Unit)×Unit)) (K1:ByteArray→Option ((Bool×Unit)×Unit)) (x0:ByteArray) (x1:Int):Option ((Bool×Unit)×Unit):=br (decide (x1<(↑(ByteArray.size x0):Int))) (br (decide (0≤x1)&&decide (x1<(↑(ByteArray.size x0):Int))) (br (decide ((↑(UInt8.toNat (Array.getD (ByteArray.data x0) (Int.toNat x1) (UInt8.ofNat 0))):Int)<97)) (K0 x0 false) (br (decide (0≤x1)&&decide (x1<(↑(ByteArray.size x0):Int))) (br (decide ((↑(UInt8.toNat (Array.getD (ByteArray.data x0) (Int.toNat x1) (UInt8.ofNat 0))):Int)>122)) (K0 x0 false) (go x0 (IntKind.wrap IntKind.i64 (x1+1)))) none)) none) (K1 x0)
def spec_ColNameOk_L0 (D:DX)(n:Nat) (K0:ByteArray→Bool→Option ((Bool×Unit)×Unit)) (K1:ByteArray→Option ((Bool×Unit)×Unit)):Nat→(ByteArray)→(Int)→Option ((Bool×Unit)×Unit) | 0=>(fun x0 x1=>none) | m+1=>(fun x0 x1=>spec_ColNameOk_b0 D n (spec_ColNameOk_L0 D n K0 K1 m) K0 K1 x0 x1)
def spec_ColNameOk_x0_0 (D:DX)(n:Nat) (v0_0:ByteArray) (v0_1:Bool):Option ((Bool×Unit)×Unit):=some ((v0_1,()),())
def spec_ColNameOk_x0_1 (D:DX)(n:Nat) (v1_0:ByteArray):Option ((Bool×Unit)×Unit):=bindD (C_spec_l1In D (↑(ByteArray.size v1_0):Int) 1 12) fun b↦some ((Prod.fst (Prod.fst b),()),())
def spec_ColNameOk_LP0 (D:DX)(n:Nat):(ByteArray)→(Int)→Option ((Bool×Unit)×Unit):=(fun x0 x1=>spec_ColNameOk_L0 D n (fun v0_0 v0_1=>spec_ColNameOk_x0_0 D n v0_0 v0_1) (fun v1_0=>spec_ColNameOk_x0_1 D n v1_0) n x0 x1)
def spec_ColNameOk_e (D:DX)(n:Nat) (lp0:ByteArray→Int→Option ((Bool×Unit)×Unit)) (a0:ByteArray):Option ((Bool×Unit)×Unit):=lp0 a0 0
def F_spec_ColNameOk (D:DX)(n:Nat) (a0:ByteArray):Option ((Bool×Unit)×Unit):=spec_ColNameOk_e D n (spec_ColNameOk_LP0 D n) a0
def spec_ColNameOk_Q0 (x0:ByteArray) (x1:Int):St:=stq 23 [(0,AV.val Ty.str x0),(3,avI x1)] [] 
def spec_ColNameOk_Q0_0 (v0_0:ByteArray) (v0_1:Bool):St:=stq 23 [(0,AV.val Ty.str v0_0),(2,AV.val Ty.bool v0_1)] [] 
def spec_ColNameOk_Q0_1 (v1_0:ByteArray):St:=stq 23 [(0,AV.val Ty.str v1_0)] [] 
theorem spec_ColNameOk_SB0 (D:DX)(n:Nat) (m:Nat) (K:Ex→St→Option (Out ctx 29)) (x0:ByteArray) (x1:Int) :
  LQ funcTab D n 29 [.r,.l,.r,.l] (m+1) (spec_ColNameOk_Q0 x0 x1) K=spec_ColNameOk_b0 D n (fun x0 x1=>LQ funcTab D n 29 [.r,.l,.r,.l] m (spec_ColNameOk_Q0 x0 x1) K) (fun v0_0 v0_1=>K (Ex.ret) (spec_ColNameOk_Q0_0 v0_0 v0_1)) (fun v1_0=>K (Ex.exit 0) (spec_ColNameOk_Q0_1 v1_0)) x0 x1:=by kernel_rfl
theorem spec_ColNameOk_EL0 (D:DX)(n:Nat) (K:Ex→St→Option (Out ctx 29)):∀ (m:Nat) (x0:ByteArray) (x1:Int),LQ funcTab D n 29 [.r,.l,.r,.l] m (spec_ColNameOk_Q0 x0 x1) K=spec_ColNameOk_L0 D n (fun v0_0 v0_1=>K (Ex.ret) (spec_ColNameOk_Q0_0 v0_0 v0_1)) (fun v1_0=>K (Ex.exit 0) (spec_ColNameOk_Q0_1 v1_0)) m x0 x1
  | 0,x0,x1=>LQ_zero ..
  | m+1,x0,x1=>by
    have ih:(fun x0 x1=>LQ funcTab D n 29 [.r,.l,.r,.l] m (spec_ColNameOk_Q0 x0 x1) K)=spec_ColNameOk_L0 D n (fun v0_0 v0_1=>K (Ex.ret) (spec_ColNameOk_Q0_0 v0_0 v0_1)) (fun v1_0=>K (Ex.exit 0) (spec_ColNameOk_Q0_1 v1_0)) m:=by funext x0 x1;exact spec_ColNameOk_EL0 D n K m x0 x1
    rw[spec_ColNameOk_SB0]
    rw[ih];rfl
theorem spec_ColNameOk_X0_0 (D:DX)(n:Nat) (v0_0:ByteArray) (v0_1:Bool) :
  (CQ funcTab D n 29 [] [.r,.l,.r,.l] (lastK funcTab 29)) (Ex.ret) (spec_ColNameOk_Q0_0 v0_0 v0_1)=spec_ColNameOk_x0_0 D n v0_0 v0_1:=by kernel_rfl
theorem spec_ColNameOk_X0_1 (D:DX)(n:Nat) (v1_0:ByteArray) :
  (CQ funcTab D n 29 [] [.r,.l,.r,.l] (lastK funcTab 29)) (Ex.exit 0) (spec_ColNameOk_Q0_1 v1_0)=spec_ColNameOk_x0_1 D n v1_0:=by kernel_rfl
theorem spec_ColNameOk_ELP0 (D:DX)(n:Nat) (x0:ByteArray) (x1:Int) :
  LQ funcTab D n 29 [.r,.l,.r,.l] n (spec_ColNameOk_Q0 x0 x1) (CQ funcTab D n 29 [] [.r,.l,.r,.l] (lastK funcTab 29))=spec_ColNameOk_LP0 D n x0 x1:=by
  rw[spec_ColNameOk_EL0]
  simp only[spec_ColNameOk_X0_0,spec_ColNameOk_X0_1]
  rfl
theorem E_spec_ColNameOk (D:DX)(n:Nat) (a0:ByteArray):rfC funcTab D n 29 (a0,())=F_spec_ColNameOk D n a0:=by
  have h:rfC funcTab D n 29 (a0,())=spec_ColNameOk_e D n (fun x0 x1=>LQ funcTab D n 29 [.r,.l,.r,.l] n (spec_ColNameOk_Q0 x0 x1) (CQ funcTab D n 29 [] [.r,.l,.r,.l] (lastK funcTab 29))) a0:=by kernel_rfl
  rw[h]
  simp only[spec_ColNameOk_ELP0]
  rfl

def impl_ColAt_e (D:DX)(n:Nat) (a0:tSch) (a1:ByteArray):Option ((Int×Unit)×Unit):=bindD (C_slices_IndexFunc_impl_Col_impl_Col D (Prod.fst a0) (Clo.mk 97 [CapV.rptr Ty.str a1])) fun b↦some ((Prod.fst (Prod.fst b),()),())
def F_impl_ColAt (D:DX)(n:Nat) (a0:tSch) (a1:ByteArray):Option ((Int×Unit)×Unit):=impl_ColAt_e D n a0 a1
theorem E_impl_ColAt (D:DX)(n:Nat) (a0:tSch) (a1:ByteArray):rfC funcTab D n 30 (a0,(a1,()))=F_impl_ColAt D n a0 a1:=by kernel_rfl

def spec_ColAt_b0 (D:DX)(n:Nat) (go:ByteArray→Int→tSch→Option ((Int×Unit)×Unit)) (K0:Int→Option ((Int×Unit)×Unit)) (K1:Option ((Int×Unit)×Unit)) (x0:ByteArray) (x1:Int) (x2:tSch):Option ((Int×Unit)×Unit):=br (decide (x1<(↑(List.length (Prod.fst x2)):Int))) (br (decide (0≤x1)&&decide (x1<(↑(List.length (Prod.fst x2)):Int))) (br (List.beq (ByteArray.toList (Prod.fst (List.getD (Prod.fst x2) (Int.toNat x1) (ByteArray.empty,0,false,())))) (ByteArray.toList x0)) (K0 x1) (go x0 (IntKind.wrap IntKind.i64 (x1+1)) x2)) none) K1
def spec_ColAt_L0 (D:DX)(n:Nat) (K0:Int→Option ((Int×Unit)×Unit)) (K1:Option ((Int×Unit)×Unit)):Nat→(ByteArray)→(Int)→(tSch)→Option ((Int×Unit)×Unit) | 0=>(fun x0 x1 x2=>none) | m+1=>(fun x0 x1 x2=>spec_ColAt_b0 D n (spec_ColAt_L0 D n K0 K1 m) K0 K1 x0 x1 x2)
def spec_ColAt_x0_0 (D:DX)(n:Nat) (v0_0:Int):Option ((Int×Unit)×Unit):=some ((v0_0,()),())
def spec_ColAt_x0_1 (D:DX)(n:Nat):Option ((Int×Unit)×Unit):=some ((-1,()),())
def spec_ColAt_LP0 (D:DX)(n:Nat):(ByteArray)→(Int)→(tSch)→Option ((Int×Unit)×Unit):=(fun x0 x1 x2=>spec_ColAt_L0 D n (fun v0_0=>spec_ColAt_x0_0 D n v0_0) (spec_ColAt_x0_1 D n) n x0 x1 x2)
def spec_ColAt_e (D:DX)(n:Nat) (lp0:ByteArray→Int→tSch→Option ((Int×Unit)×Unit)) (a0:tSch) (a1:ByteArray):Option ((Int×Unit)×Unit):=lp0 a1 0 a0
def F_spec_ColAt (D:DX)(n:Nat) (a0:tSch) (a1:ByteArray):Option ((Int×Unit)×Unit):=spec_ColAt_e D n (spec_ColAt_LP0 D n) a0 a1
def spec_ColAt_Q0 (x0:ByteArray) (x1:Int) (x2:tSch):St:=stq 22 [(1,AV.val Ty.str x0),(2,AV.addr 2 []),(5,avI x1)] [(2,Root.mk yS Mk.no x2 true)] 
def spec_ColAt_Q0_0 (v0_0:Int):St:=stq 22 [(4,avI v0_0)] [] 
def spec_ColAt_Q0_1:St:=stq 22 [] [] 
theorem spec_ColAt_SB0 (D:DX)(n:Nat) (m:Nat) (K:Ex→St→Option (Out ctx 31)) (x0:ByteArray) (x1:Int) (x2:tSch) :
  LQ funcTab D n 31 [.r,.l,.r,.l] (m+1) (spec_ColAt_Q0 x0 x1 x2) K=spec_ColAt_b0 D n (fun x0 x1 x2=>LQ funcTab D n 31 [.r,.l,.r,.l] m (spec_ColAt_Q0 x0 x1 x2) K) (fun v0_0=>K (Ex.ret) (spec_ColAt_Q0_0 v0_0)) (K (Ex.exit 0) (spec_ColAt_Q0_1)) x0 x1 x2:=by kernel_rfl
theorem spec_ColAt_EL0 (D:DX)(n:Nat) (K:Ex→St→Option (Out ctx 31)):∀ (m:Nat) (x0:ByteArray) (x1:Int) (x2:tSch),LQ funcTab D n 31 [.r,.l,.r,.l] m (spec_ColAt_Q0 x0 x1 x2) K=spec_ColAt_L0 D n (fun v0_0=>K (Ex.ret) (spec_ColAt_Q0_0 v0_0)) (K (Ex.exit 0) (spec_ColAt_Q0_1)) m x0 x1 x2
  | 0,x0,x1,x2=>LQ_zero ..
  | m+1,x0,x1,x2=>by
    have ih:(fun x0 x1 x2=>LQ funcTab D n 31 [.r,.l,.r,.l] m (spec_ColAt_Q0 x0 x1 x2) K)=spec_ColAt_L0 D n (fun v0_0=>K (Ex.ret) (spec_ColAt_Q0_0 v0_0)) (K (Ex.exit 0) (spec_ColAt_Q0_1)) m:=by funext x0 x1 x2;exact spec_ColAt_EL0 D n K m x0 x1 x2
    rw[spec_ColAt_SB0]
    rw[ih];rfl
theorem spec_ColAt_X0_0 (D:DX)(n:Nat) (v0_0:Int) :
  (CQ funcTab D n 31 [] [.r,.l,.r,.l] (lastK funcTab 31)) (Ex.ret) (spec_ColAt_Q0_0 v0_0)=spec_ColAt_x0_0 D n v0_0:=by kernel_rfl
theorem spec_ColAt_X0_1 (D:DX)(n:Nat) :
  (CQ funcTab D n 31 [] [.r,.l,.r,.l] (lastK funcTab 31)) (Ex.exit 0) (spec_ColAt_Q0_1)=spec_ColAt_x0_1 D n:=by kernel_rfl
theorem spec_ColAt_ELP0 (D:DX)(n:Nat) (x0:ByteArray) (x1:Int) (x2:tSch) :
  LQ funcTab D n 31 [.r,.l,.r,.l] n (spec_ColAt_Q0 x0 x1 x2) (CQ funcTab D n 31 [] [.r,.l,.r,.l] (lastK funcTab 31))=spec_ColAt_LP0 D n x0 x1 x2:=by
  rw[spec_ColAt_EL0]
  simp only[spec_ColAt_X0_0,spec_ColAt_X0_1]
  rfl
theorem E_spec_ColAt (D:DX)(n:Nat) (a0:tSch) (a1:ByteArray):rfC funcTab D n 31 (a0,(a1,()))=F_spec_ColAt D n a0 a1:=by
  have h:rfC funcTab D n 31 (a0,(a1,()))=spec_ColAt_e D n (fun x0 x1 x2=>LQ funcTab D n 31 [.r,.l,.r,.l] n (spec_ColAt_Q0 x0 x1 x2) (CQ funcTab D n 31 [] [.r,.l,.r,.l] (lastK funcTab 31))) a0 a1:=by kernel_rfl
  rw[h]
  simp only[spec_ColAt_ELP0]
  rfl

def laws_sameTuple_b0 (D:DX)(n:Nat) (go:tVals→tVals→Int→Option ((Bool×Unit)×Unit)) (K0:Bool→Option ((Bool×Unit)×Unit)) (K1:Option ((Bool×Unit)×Unit)) (x0:tVals) (x1:tVals) (x2:Int):Option ((Bool×Unit)×Unit):=br (decide (x2<(↑(List.length x0):Int))) (br (decide (0≤x2)&&decide (x2<(↑(List.length x0):Int))) (br (decide (0≤x2)&&decide (x2<(↑(List.length x1):Int))) (br (!eqDen (Ty.pair (Ty.int IntKind.i64) (Ty.pair (Ty.int IntKind.i64) (Ty.pair Ty.str Ty.unit))) (List.getD x0 (Int.toNat x2) (0,0,ByteArray.empty,())) (List.getD x1 (Int.toNat x2) (0,0,ByteArray.empty,()))) (K0 false) (go x0 x1 (IntKind.wrap IntKind.i64 (x2+1)))) none) none) K1
def laws_sameTuple_L0 (D:DX)(n:Nat) (K0:Bool→Option ((Bool×Unit)×Unit)) (K1:Option ((Bool×Unit)×Unit)):Nat→(tVals)→(tVals)→(Int)→Option ((Bool×Unit)×Unit) | 0=>(fun x0 x1 x2=>none) | m+1=>(fun x0 x1 x2=>laws_sameTuple_b0 D n (laws_sameTuple_L0 D n K0 K1 m) K0 K1 x0 x1 x2)
def laws_sameTuple_x0_0 (D:DX)(n:Nat) (v0_0:Bool):Option ((Bool×Unit)×Unit):=some ((v0_0,()),())
def laws_sameTuple_x0_1 (D:DX)(n:Nat):Option ((Bool×Unit)×Unit):=some ((true,()),())
def laws_sameTuple_LP0 (D:DX)(n:Nat):(tVals)→(tVals)→(Int)→Option ((Bool×Unit)×Unit):=(fun x0 x1 x2=>laws_sameTuple_L0 D n (fun v0_0=>laws_sameTuple_x0_0 D n v0_0) (laws_sameTuple_x0_1 D n) n x0 x1 x2)
def laws_sameTuple_e (D:DX)(n:Nat) (lp0:tVals→tVals→Int→Option ((Bool×Unit)×Unit)) (a0:tVals) (a1:tVals):Option ((Bool×Unit)×Unit):=br ((↑(List.length a0):Int) != (↑(List.length a1):Int)) (some ((false,()),())) (lp0 a0 a1 0)
def F_laws_sameTuple (D:DX)(n:Nat) (a0:tVals) (a1:tVals):Option ((Bool×Unit)×Unit):=laws_sameTuple_e D n (laws_sameTuple_LP0 D n) a0 a1
def laws_sameTuple_Q0 (x0:tVals) (x1:tVals) (x2:Int):St:=stq 26 [(0,AV.val (Ty.sl yV) x0),(1,AV.val (Ty.sl yV) x1),(5,avI x2)] [] 
def laws_sameTuple_Q0_0 (v0_0:Bool):St:=stq 26 [(4,AV.val Ty.bool v0_0)] [] 
def laws_sameTuple_Q0_1:St:=stq 26 [] [] 
theorem laws_sameTuple_SB0 (D:DX)(n:Nat) (m:Nat) (K:Ex→St→Option (Out ctx 32)) (x0:tVals) (x1:tVals) (x2:Int) :
  LQ funcTab D n 32 [.r,.r,.l,.r,.l] (m+1) (laws_sameTuple_Q0 x0 x1 x2) K=laws_sameTuple_b0 D n (fun x0 x1 x2=>LQ funcTab D n 32 [.r,.r,.l,.r,.l] m (laws_sameTuple_Q0 x0 x1 x2) K) (fun v0_0=>K (Ex.ret) (laws_sameTuple_Q0_0 v0_0)) (K (Ex.exit 0) (laws_sameTuple_Q0_1)) x0 x1 x2:=by kernel_rfl
theorem laws_sameTuple_EL0 (D:DX)(n:Nat) (K:Ex→St→Option (Out ctx 32)):∀ (m:Nat) (x0:tVals) (x1:tVals) (x2:Int),LQ funcTab D n 32 [.r,.r,.l,.r,.l] m (laws_sameTuple_Q0 x0 x1 x2) K=laws_sameTuple_L0 D n (fun v0_0=>K (Ex.ret) (laws_sameTuple_Q0_0 v0_0)) (K (Ex.exit 0) (laws_sameTuple_Q0_1)) m x0 x1 x2
  | 0,x0,x1,x2=>LQ_zero ..
  | m+1,x0,x1,x2=>by
    have ih:(fun x0 x1 x2=>LQ funcTab D n 32 [.r,.r,.l,.r,.l] m (laws_sameTuple_Q0 x0 x1 x2) K)=laws_sameTuple_L0 D n (fun v0_0=>K (Ex.ret) (laws_sameTuple_Q0_0 v0_0)) (K (Ex.exit 0) (laws_sameTuple_Q0_1)) m:=by funext x0 x1 x2;exact laws_sameTuple_EL0 D n K m x0 x1 x2
    rw[laws_sameTuple_SB0]
    rw[ih];rfl
theorem laws_sameTuple_X0_0 (D:DX)(n:Nat) (v0_0:Bool) :
  (CQ funcTab D n 32 [] [.r,.r,.l,.r,.l] (lastK funcTab 32)) (Ex.ret) (laws_sameTuple_Q0_0 v0_0)=laws_sameTuple_x0_0 D n v0_0:=by kernel_rfl
theorem laws_sameTuple_X0_1 (D:DX)(n:Nat) :
  (CQ funcTab D n 32 [] [.r,.r,.l,.r,.l] (lastK funcTab 32)) (Ex.exit 0) (laws_sameTuple_Q0_1)=laws_sameTuple_x0_1 D n:=by kernel_rfl
theorem laws_sameTuple_ELP0 (D:DX)(n:Nat) (x0:tVals) (x1:tVals) (x2:Int) :
  LQ funcTab D n 32 [.r,.r,.l,.r,.l] n (laws_sameTuple_Q0 x0 x1 x2) (CQ funcTab D n 32 [] [.r,.r,.l,.r,.l] (lastK funcTab 32))=laws_sameTuple_LP0 D n x0 x1 x2:=by
  rw[laws_sameTuple_EL0]
  simp only[laws_sameTuple_X0_0,laws_sameTuple_X0_1]
  rfl
theorem E_laws_sameTuple (D:DX)(n:Nat) (a0:tVals) (a1:tVals):rfC funcTab D n 32 (a0,(a1,()))=F_laws_sameTuple D n a0 a1:=by
  have h:rfC funcTab D n 32 (a0,(a1,()))=laws_sameTuple_e D n (fun x0 x1 x2=>LQ funcTab D n 32 [.r,.r,.l,.r,.l] n (laws_sameTuple_Q0 x0 x1 x2) (CQ funcTab D n 32 [] [.r,.r,.l,.r,.l] (lastK funcTab 32))) a0 a1:=by kernel_rfl
  rw[h]
  simp only[laws_sameTuple_ELP0]
  rfl

def impl_KeyOfRow_e (D:DX)(n:Nat) (a0:tSch) (a1:tVals):Option ((tVals×Unit)×Unit):=bindD (C_impl_Project D a1 (Prod.fst (Prod.snd a0))) fun b↦some ((Prod.fst (Prod.fst b),()),())
def F_impl_KeyOfRow (D:DX)(n:Nat) (a0:tSch) (a1:tVals):Option ((tVals×Unit)×Unit):=impl_KeyOfRow_e D n a0 a1
theorem E_impl_KeyOfRow (D:DX)(n:Nat) (a0:tSch) (a1:tVals):rfC funcTab D n 33 (a0,(a1,()))=F_impl_KeyOfRow D n a0 a1:=by kernel_rfl

def spec_KeyOfRow_e (D:DX)(n:Nat) (a0:tSch) (a1:tVals):Option ((tVals×Unit)×Unit):=bindD (C_spec_Project D a1 (Prod.fst (Prod.snd a0))) fun b↦some ((Prod.fst (Prod.fst b),()),())
def F_spec_KeyOfRow (D:DX)(n:Nat) (a0:tSch) (a1:tVals):Option ((tVals×Unit)×Unit):=spec_KeyOfRow_e D n a0 a1
theorem E_spec_KeyOfRow (D:DX)(n:Nat) (a0:tSch) (a1:tVals):rfC funcTab D n 34 (a0,(a1,()))=F_spec_KeyOfRow D n a0 a1:=by kernel_rfl











def spec_RelOk_b1 (D:DX)(n:Nat) (go:Int→Int→(tSch)×tRows×Unit→Option ((Bool×Unit)×Unit)) (K0:Bool→Int→(tSch)×tRows×Unit→Option ((Bool×Unit)×Unit)) (K1:Int→(tSch)×tRows×Unit→Option ((Bool×Unit)×Unit)) (x1_0:Int) (x1_1:Int) (x1_2:(tSch)×tRows×Unit):Option ((Bool×Unit)×Unit):=br (decide (x1_1<x1_0)) (br (decide (0≤x1_1)&&decide (x1_1<(↑(List.length (Prod.fst (Prod.snd x1_2))):Int))) (br (decide (0≤x1_0)&&decide (x1_0<(↑(List.length (Prod.fst (Prod.snd x1_2))):Int))) (bindD (C_spec_l21Clash D (Prod.fst x1_2) (List.getD (Prod.fst (Prod.snd x1_2)) (Int.toNat x1_1) []) (List.getD (Prod.fst (Prod.snd x1_2)) (Int.toNat x1_0) [])) fun b↦br (Prod.fst (Prod.fst b)) (K0 false x1_0 x1_2) (go x1_0 (IntKind.wrap IntKind.i64 (x1_1+1)) x1_2)) none) none) (K1 x1_0 x1_2)
def spec_RelOk_L1 (D:DX)(n:Nat) (K0:Bool→Int→(tSch)×tRows×Unit→Option ((Bool×Unit)×Unit)) (K1:Int→(tSch)×tRows×Unit→Option ((Bool×Unit)×Unit)):Nat→(Int)→(Int)→((tSch)×tRows×Unit)→Option ((Bool×Unit)×Unit) | 0=>(fun x1_0 x1_1 x1_2=>none) | m+1=>(fun x1_0 x1_1 x1_2=>spec_RelOk_b1 D n (spec_RelOk_L1 D n K0 K1 m) K0 K1 x1_0 x1_1 x1_2)
def spec_RelOk_x1_0 (D:DX)(n:Nat) (go:Int→(tSch)×tRows×Unit→Option ((Bool×Unit)×Unit)) (K0:Bool→(tSch)×tRows×Unit→Option ((Bool×Unit)×Unit)) (K1:(tSch)×tRows×Unit→Option ((Bool×Unit)×Unit)) (v0_0:Bool) (v0_1:Int) (v0_2:(tSch)×tRows×Unit):Option ((Bool×Unit)×Unit):=K0 v0_0 v0_2
def spec_RelOk_x1_1 (D:DX)(n:Nat) (go:Int→(tSch)×tRows×Unit→Option ((Bool×Unit)×Unit)) (K0:Bool→(tSch)×tRows×Unit→Option ((Bool×Unit)×Unit)) (K1:(tSch)×tRows×Unit→Option ((Bool×Unit)×Unit)) (v1_0:Int) (v1_1:(tSch)×tRows×Unit):Option ((Bool×Unit)×Unit):=go (IntKind.wrap IntKind.i64 (v1_0+1)) v1_1
def spec_RelOk_LP1 (D:DX)(n:Nat) (go:Int→(tSch)×tRows×Unit→Option ((Bool×Unit)×Unit)) (K0:Bool→(tSch)×tRows×Unit→Option ((Bool×Unit)×Unit)) (K1:(tSch)×tRows×Unit→Option ((Bool×Unit)×Unit)):(Int)→(Int)→((tSch)×tRows×Unit)→Option ((Bool×Unit)×Unit):=(fun x1_0 x1_1 x1_2=>spec_RelOk_L1 D n (fun v0_0 v0_1 v0_2=>spec_RelOk_x1_0 D n go K0 K1 v0_0 v0_1 v0_2) (fun v1_0 v1_1=>spec_RelOk_x1_1 D n go K0 K1 v1_0 v1_1) n x1_0 x1_1 x1_2)
def spec_RelOk_b0 (D:DX)(n:Nat) (go:Int→(tSch)×tRows×Unit→Option ((Bool×Unit)×Unit)) (K0:Bool→(tSch)×tRows×Unit→Option ((Bool×Unit)×Unit)) (K1:(tSch)×tRows×Unit→Option ((Bool×Unit)×Unit)) (lp1:Int→Int→(tSch)×tRows×Unit→Option ((Bool×Unit)×Unit)) (x0:Int) (x1:(tSch)×tRows×Unit):Option ((Bool×Unit)×Unit):=br (decide (x0<(↑(List.length (Prod.fst (Prod.snd x1))):Int))) (br (decide (0≤x0)&&decide (x0<(↑(List.length (Prod.fst (Prod.snd x1))):Int))) (bindD (C_spec_RowOk D (Prod.fst x1) (List.getD (Prod.fst (Prod.snd x1)) (Int.toNat x0) [])) fun b↦br (!Prod.fst (Prod.fst b)) (K0 false x1) (br (decide (x0>0)) (br (decide (0≤IntKind.wrap IntKind.i64 (x0 - 1))&&decide (IntKind.wrap IntKind.i64 (x0 - 1)<(↑(List.length (Prod.fst (Prod.snd x1))):Int))) (bindD (C_spec_KeyOfRow D (Prod.fst x1) (List.getD (Prod.fst (Prod.snd x1)) (Int.toNat (IntKind.wrap IntKind.i64 (x0 - 1))) [])) fun b↦br (decide (0≤x0)&&decide (x0<(↑(List.length (Prod.fst (Prod.snd x1))):Int))) (bindD (C_spec_KeyOfRow D (Prod.fst x1) (List.getD (Prod.fst (Prod.snd x1)) (Int.toNat x0) [])) fun b_1↦bindD (C_spec_TupleLess D (Prod.fst (Prod.fst b)) (Prod.fst (Prod.fst b_1))) fun b↦br (!Prod.fst (Prod.fst b)) (K0 false x1) (lp1 x0 0 x1)) none) none) (lp1 x0 0 x1))) none) (K1 x1)
def spec_RelOk_L0 (D:DX)(n:Nat) (K0:Bool→(tSch)×tRows×Unit→Option ((Bool×Unit)×Unit)) (K1:(tSch)×tRows×Unit→Option ((Bool×Unit)×Unit)):Nat→(Int)→((tSch)×tRows×Unit)→Option ((Bool×Unit)×Unit) | 0=>(fun x0 x1=>none) | m+1=>(fun x0 x1=>spec_RelOk_b0 D n (spec_RelOk_L0 D n K0 K1 m) K0 K1 (spec_RelOk_LP1 D n (spec_RelOk_L0 D n K0 K1 m) K0 K1) x0 x1)
def spec_RelOk_x0_0 (D:DX)(n:Nat) (v0_0:Bool) (v0_1:(tSch)×tRows×Unit):Option ((Bool×Unit)×Unit):=some ((v0_0,()),())
def spec_RelOk_x0_1 (D:DX)(n:Nat) (v1_0:(tSch)×tRows×Unit):Option ((Bool×Unit)×Unit):=bindD (C_spec_SchemaOk D (Prod.fst v1_0)) fun b↦some ((bif Prod.fst (Prod.fst b) then decide ((↑(List.length (Prod.fst (Prod.snd v1_0))):Int)≤12) else false,()),())
def spec_RelOk_LP0 (D:DX)(n:Nat):(Int)→((tSch)×tRows×Unit)→Option ((Bool×Unit)×Unit):=(fun x0 x1=>spec_RelOk_L0 D n (fun v0_0 v0_1=>spec_RelOk_x0_0 D n v0_0 v0_1) (fun v1_0=>spec_RelOk_x0_1 D n v1_0) n x0 x1)
def spec_RelOk_e (D:DX)(n:Nat) (lp0:Int→(tSch)×tRows×Unit→Option ((Bool×Unit)×Unit)) (a0:(tSch)×tRows×Unit):Option ((Bool×Unit)×Unit):=lp0 0 a0
def F_spec_RelOk (D:DX)(n:Nat) (a0:(tSch)×tRows×Unit):Option ((Bool×Unit)×Unit):=spec_RelOk_e D n (spec_RelOk_LP0 D n) a0
def spec_RelOk_Q0 (x0:Int) (x1:(tSch)×tRows×Unit):St:=stq 73 [(1,AV.addr 1 []),(3,avI x0)] [(1,Root.mk (Ty.pair yS (Ty.pair (Ty.sl (Ty.sl yV)) Ty.unit)) Mk.no x1 true)] 
def spec_RelOk_Q0_0 (v0_0:Bool) (v0_1:(tSch)×tRows×Unit):St:=stq 73 [(1,AV.addr 1 []),(2,AV.val Ty.bool v0_0)] [(1,Root.mk (Ty.pair yS (Ty.pair (Ty.sl (Ty.sl yV)) Ty.unit)) Mk.no v0_1 true)] 
def spec_RelOk_Q0_1 (v1_0:(tSch)×tRows×Unit):St:=stq 73 [(1,AV.addr 1 [])] [(1,Root.mk (Ty.pair yS (Ty.pair (Ty.sl (Ty.sl yV)) Ty.unit)) Mk.no v1_0 true)] 
def spec_RelOk_Q1 (x1_0:Int) (x1_1:Int) (x1_2:(tSch)×tRows×Unit):St:=stq 73 [(1,AV.addr 1 []),(3,avI x1_0),(4,avI x1_1)] [(1,Root.mk (Ty.pair yS (Ty.pair (Ty.sl (Ty.sl yV)) Ty.unit)) Mk.no x1_2 true)] 
def spec_RelOk_Q1_0 (v0_0:Bool) (v0_1:Int) (v0_2:(tSch)×tRows×Unit):St:=stq 73 [(1,AV.addr 1 []),(2,AV.val Ty.bool v0_0),(3,avI v0_1)] [(1,Root.mk (Ty.pair yS (Ty.pair (Ty.sl (Ty.sl yV)) Ty.unit)) Mk.no v0_2 true)] 
def spec_RelOk_Q1_1 (v1_0:Int) (v1_1:(tSch)×tRows×Unit):St:=stq 73 [(1,AV.addr 1 []),(3,avI v1_0)] [(1,Root.mk (Ty.pair yS (Ty.pair (Ty.sl (Ty.sl yV)) Ty.unit)) Mk.no v1_1 true)] 
theorem spec_RelOk_SB1 (D:DX)(n:Nat) (m:Nat) (K:Ex→St→Option (Out ctx 48)) (x1_0:Int) (x1_1:Int) (x1_2:(tSch)×
  tRows×Unit) :
  LQ funcTab D n 48 [.r,.l,.r,.l,.l,.r,.l,.l,.r,.r,.l] (m+1) (spec_RelOk_Q1 x1_0 x1_1 x1_2) K=spec_RelOk_b1 D n (fun x1_0 x1_1 x1_2=>LQ funcTab D n 48 [.r,.l,.r,.l,.l,.r,.l,.l,.r,.r,.l] m (spec_RelOk_Q1 x1_0 x1_1 x1_2) K) (fun v0_0 v0_1 v0_2=>K (Ex.ret) (spec_RelOk_Q1_0 v0_0 v0_1 v0_2)) (fun v1_0 v1_1=>K (Ex.exit 2) (spec_RelOk_Q1_1 v1_0 v1_1)) x1_0 x1_1 x1_2:=by kernel_rfl
theorem spec_RelOk_EL1 (D:DX)(n:Nat) (K:Ex→St→Option (Out ctx 48)):∀ (m:Nat) (x1_0:Int) (x1_1:Int) (x1_2:(tSch)×
  tRows×Unit),LQ funcTab D n 48 [.r,.l,.r,.l,.l,.r,.l,.l,.r,.r,.l] m (spec_RelOk_Q1 x1_0 x1_1 x1_2) K=spec_RelOk_L1 D n (fun v0_0 v0_1 v0_2=>K (Ex.ret) (spec_RelOk_Q1_0 v0_0 v0_1 v0_2)) (fun v1_0 v1_1=>K (Ex.exit 2) (spec_RelOk_Q1_1 v1_0 v1_1)) m x1_0 x1_1 x1_2
  | 0,x1_0,x1_1,x1_2=>LQ_zero ..
  | m+1,x1_0,x1_1,x1_2=>by
    have ih:(fun x1_0 x1_1 x1_2=>LQ funcTab D n 48 [.r,.l,.r,.l,.l,.r,.l,.l,.r,.r,.l] m (spec_RelOk_Q1 x1_0 x1_1 x1_2) K)=spec_RelOk_L1 D n (fun v0_0 v0_1 v0_2=>K (Ex.ret) (spec_RelOk_Q1_0 v0_0 v0_1 v0_2)) (fun v1_0 v1_1=>K (Ex.exit 2) (spec_RelOk_Q1_1 v1_0 v1_1)) m:=by funext x1_0 x1_1 x1_2;exact spec_RelOk_EL1 D n K m x1_0 x1_1 x1_2
    rw[spec_RelOk_SB1]
    rw[ih];rfl
theorem spec_RelOk_X1_0 (D:DX)(n:Nat) (m:Nat) (K:Ex→St→Option (Out ctx 48)) (v0_0:Bool) (v0_1:Int) (v0_2:(tSch)×
  tRows×Unit) :
  (CQ funcTab D n 48 [.r,.l,.r,.l,.l] [.r,.l,.l,.r,.r,.l] (LK funcTab D n 48 [.r,.l,.r,.l] m K)) (Ex.ret) (spec_RelOk_Q1_0 v0_0 v0_1 v0_2)=spec_RelOk_x1_0 D n (fun x0 x1=>LQ funcTab D n 48 [.r,.l,.r,.l] m (spec_RelOk_Q0 x0 x1) K) (fun v0_0 v0_1=>K (Ex.ret) (spec_RelOk_Q0_0 v0_0 v0_1)) (fun v1_0=>K (Ex.exit 0) (spec_RelOk_Q0_1 v1_0)) v0_0 v0_1 v0_2:=by kernel_rfl
theorem spec_RelOk_X1_1 (D:DX)(n:Nat) (m:Nat) (K:Ex→St→Option (Out ctx 48)) (v1_0:Int) (v1_1:(tSch)×
  tRows×Unit) :
  (CQ funcTab D n 48 [.r,.l,.r,.l,.l] [.r,.l,.l,.r,.r,.l] (LK funcTab D n 48 [.r,.l,.r,.l] m K)) (Ex.exit 2) (spec_RelOk_Q1_1 v1_0 v1_1)=spec_RelOk_x1_1 D n (fun x0 x1=>LQ funcTab D n 48 [.r,.l,.r,.l] m (spec_RelOk_Q0 x0 x1) K) (fun v0_0 v0_1=>K (Ex.ret) (spec_RelOk_Q0_0 v0_0 v0_1)) (fun v1_0=>K (Ex.exit 0) (spec_RelOk_Q0_1 v1_0)) v1_0 v1_1:=by kernel_rfl
theorem spec_RelOk_ELP1 (D:DX)(n:Nat) (m:Nat) (K:Ex→St→Option (Out ctx 48)) (x1_0:Int) (x1_1:Int) (x1_2:(tSch)×
  tRows×Unit) :
  LQ funcTab D n 48 [.r,.l,.r,.l,.l,.r,.l,.l,.r,.r,.l] n (spec_RelOk_Q1 x1_0 x1_1 x1_2) (CQ funcTab D n 48 [.r,.l,.r,.l,.l] [.r,.l,.l,.r,.r,.l] (LK funcTab D n 48 [.r,.l,.r,.l] m K))=spec_RelOk_LP1 D n (fun x0 x1=>LQ funcTab D n 48 [.r,.l,.r,.l] m (spec_RelOk_Q0 x0 x1) K) (fun v0_0 v0_1=>K (Ex.ret) (spec_RelOk_Q0_0 v0_0 v0_1)) (fun v1_0=>K (Ex.exit 0) (spec_RelOk_Q0_1 v1_0)) x1_0 x1_1 x1_2:=by
  rw[spec_RelOk_EL1]
  simp only[spec_RelOk_X1_0,spec_RelOk_X1_1]
  rfl
theorem spec_RelOk_SB0 (D:DX)(n:Nat) (m:Nat) (K:Ex→St→Option (Out ctx 48)) (x0:Int) (x1:(tSch)×
  tRows×Unit) :
  LQ funcTab D n 48 [.r,.l,.r,.l] (m+1) (spec_RelOk_Q0 x0 x1) K=spec_RelOk_b0 D n (fun x0 x1=>LQ funcTab D n 48 [.r,.l,.r,.l] m (spec_RelOk_Q0 x0 x1) K) (fun v0_0 v0_1=>K (Ex.ret) (spec_RelOk_Q0_0 v0_0 v0_1)) (fun v1_0=>K (Ex.exit 0) (spec_RelOk_Q0_1 v1_0)) (fun x1_0 x1_1 x1_2=>LQ funcTab D n 48 [.r,.l,.r,.l,.l,.r,.l,.l,.r,.r,.l] n (spec_RelOk_Q1 x1_0 x1_1 x1_2) (CQ funcTab D n 48 [.r,.l,.r,.l,.l] [.r,.l,.l,.r,.r,.l] (LK funcTab D n 48 [.r,.l,.r,.l] m K))) x0 x1:=by kernel_rfl
theorem spec_RelOk_EL0 (D:DX)(n:Nat) (K:Ex→St→Option (Out ctx 48)):∀ (m:Nat) (x0:Int) (x1:(tSch)×
  tRows×Unit),LQ funcTab D n 48 [.r,.l,.r,.l] m (spec_RelOk_Q0 x0 x1) K=spec_RelOk_L0 D n (fun v0_0 v0_1=>K (Ex.ret) (spec_RelOk_Q0_0 v0_0 v0_1)) (fun v1_0=>K (Ex.exit 0) (spec_RelOk_Q0_1 v1_0)) m x0 x1
  | 0,x0,x1=>LQ_zero ..
  | m+1,x0,x1=>by
    have ih:(fun x0 x1=>LQ funcTab D n 48 [.r,.l,.r,.l] m (spec_RelOk_Q0 x0 x1) K)=spec_RelOk_L0 D n (fun v0_0 v0_1=>K (Ex.ret) (spec_RelOk_Q0_0 v0_0 v0_1)) (fun v1_0=>K (Ex.exit 0) (spec_RelOk_Q0_1 v1_0)) m:=by funext x0 x1;exact spec_RelOk_EL0 D n K m x0 x1
    rw[spec_RelOk_SB0]
    simp only[spec_RelOk_ELP1]
    rw[ih];rfl
theorem spec_RelOk_X0_0 (D:DX)(n:Nat) (v0_0:Bool) (v0_1:(tSch)×
  tRows×Unit) :
  (CQ funcTab D n 48 [] [.r,.l,.r,.l] (lastK funcTab 48)) (Ex.ret) (spec_RelOk_Q0_0 v0_0 v0_1)=spec_RelOk_x0_0 D n v0_0 v0_1:=by kernel_rfl
theorem spec_RelOk_X0_1 (D:DX)(n:Nat) (v1_0:(tSch)×
  tRows×Unit) :
  (CQ funcTab D n 48 [] [.r,.l,.r,.l] (lastK funcTab 48)) (Ex.exit 0) (spec_RelOk_Q0_1 v1_0)=spec_RelOk_x0_1 D n v1_0:=by kernel_rfl
theorem spec_RelOk_ELP0 (D:DX)(n:Nat) (x0:Int) (x1:(tSch)×
  tRows×Unit) :
  LQ funcTab D n 48 [.r,.l,.r,.l] n (spec_RelOk_Q0 x0 x1) (CQ funcTab D n 48 [] [.r,.l,.r,.l] (lastK funcTab 48))=spec_RelOk_LP0 D n x0 x1:=by
  rw[spec_RelOk_EL0]
  simp only[spec_RelOk_X0_0,spec_RelOk_X0_1]
  rfl
theorem E_spec_RelOk (D:DX)(n:Nat) (a0:(tSch)×
  tRows×Unit):rfC funcTab D n 48 (a0,())=F_spec_RelOk D n a0:=by
  have h:rfC funcTab D n 48 (a0,())=spec_RelOk_e D n (fun x0 x1=>LQ funcTab D n 48 [.r,.l,.r,.l] n (spec_RelOk_Q0 x0 x1) (CQ funcTab D n 48 [] [.r,.l,.r,.l] (lastK funcTab 48))) a0:=by kernel_rfl
  rw[h]
  simp only[spec_RelOk_ELP0]
  rfl

def impl_RelOk_b0 (D:DX)(n:Nat) (go:tRows→Int→Int→(tSch)×tRows×Unit→Option ((Bool×Unit)×Unit)) (K0:Bool→(tSch)×tRows×Unit→Option ((Bool×Unit)×Unit)) (K1:(tSch)×tRows×Unit→Option ((Bool×Unit)×Unit)) (x0:tRows) (x1:Int) (x2:Int) (x3:(tSch)×tRows×Unit):Option ((Bool×Unit)×Unit):=br (decide (x2<x1)) (br (decide (0≤x2)&&decide (x2<(↑(List.length x0):Int))) (bindD (C_impl_RowOk D (Prod.fst x3) (List.getD x0 (Int.toNat x2) [])) fun b↦br (!Prod.fst (Prod.fst b)) (K0 false x3) (br (decide (x2>0)) (br (decide (0≤IntKind.wrap IntKind.i64 (x2 - 1))&&decide (IntKind.wrap IntKind.i64 (x2 - 1)<(↑(List.length (Prod.fst (Prod.snd x3))):Int))) (bindD (C_impl_KeyOfRow D (Prod.fst x3) (List.getD (Prod.fst (Prod.snd x3)) (Int.toNat (IntKind.wrap IntKind.i64 (x2 - 1))) [])) fun b↦bindD (C_impl_KeyOfRow D (Prod.fst x3) (List.getD x0 (Int.toNat x2) [])) fun b_1↦bindD (C_impl_TupleLess D (Prod.fst (Prod.fst b)) (Prod.fst (Prod.fst b_1))) fun b↦br (!Prod.fst (Prod.fst b)) (K0 false x3) (br (decide (0≤0)&&decide (0≤x2)&&decide (x2≤(↑(List.length (Prod.fst (Prod.snd x3))):Int))) (bindD (C_slices_ContainsFunc_impl_Value_impl_Valuex D (List.drop (Int.toNat 0) (List.take (Int.toNat x2) (Prod.fst (Prod.snd x3)))) (Clo.mk 117 [CapV.rptr (Ty.pair (Ty.pair (Ty.sl (Ty.pair Ty.str (Ty.pair (Ty.int IntKind.i64) (Ty.pair Ty.bool Ty.unit)))) (Ty.pair (Ty.sl (Ty.int IntKind.i64)) (Ty.pair (Ty.sl (Ty.pair Ty.str (Ty.pair (Ty.sl (Ty.int IntKind.i64)) (Ty.pair Ty.bool Ty.unit)))) Ty.unit))) (Ty.pair (Ty.sl (Ty.sl (Ty.pair (Ty.int IntKind.i64) (Ty.pair (Ty.int IntKind.i64) (Ty.pair Ty.str Ty.unit))))) Ty.unit)) x3,CapV.rptr (Ty.sl (Ty.pair (Ty.int IntKind.i64) (Ty.pair (Ty.int IntKind.i64) (Ty.pair Ty.str Ty.unit)))) (List.getD x0 (Int.toNat x2) [])])) fun b↦br (Prod.fst (Prod.fst b)) (K0 false x3) (go x0 x1 (IntKind.wrap IntKind.i64 (x2+1)) x3)) none)) none) (br (decide (0≤0)&&decide (0≤x2)&&decide (x2≤(↑(List.length (Prod.fst (Prod.snd x3))):Int))) (bindD (C_slices_ContainsFunc_impl_Value_impl_Valuex D (List.drop (Int.toNat 0) (List.take (Int.toNat x2) (Prod.fst (Prod.snd x3)))) (Clo.mk 117 [CapV.rptr (Ty.pair (Ty.pair (Ty.sl (Ty.pair Ty.str (Ty.pair (Ty.int IntKind.i64) (Ty.pair Ty.bool Ty.unit)))) (Ty.pair (Ty.sl (Ty.int IntKind.i64)) (Ty.pair (Ty.sl (Ty.pair Ty.str (Ty.pair (Ty.sl (Ty.int IntKind.i64)) (Ty.pair Ty.bool Ty.unit)))) Ty.unit))) (Ty.pair (Ty.sl (Ty.sl (Ty.pair (Ty.int IntKind.i64) (Ty.pair (Ty.int IntKind.i64) (Ty.pair Ty.str Ty.unit))))) Ty.unit)) x3,CapV.rptr (Ty.sl (Ty.pair (Ty.int IntKind.i64) (Ty.pair (Ty.int IntKind.i64) (Ty.pair Ty.str Ty.unit)))) (List.getD x0 (Int.toNat x2) [])])) fun b↦br (Prod.fst (Prod.fst b)) (K0 false x3) (go x0 x1 (IntKind.wrap IntKind.i64 (x2+1)) x3)) none))) none) (K1 x3)
def impl_RelOk_L0 (D:DX)(n:Nat) (K0:Bool→(tSch)×tRows×Unit→Option ((Bool×Unit)×Unit)) (K1:(tSch)×tRows×Unit→Option ((Bool×Unit)×Unit)):Nat→(tRows)→(Int)→(Int)→((tSch)×tRows×Unit)→Option ((Bool×Unit)×Unit) | 0=>(fun x0 x1 x2 x3=>none) | m+1=>(fun x0 x1 x2 x3=>impl_RelOk_b0 D n (impl_RelOk_L0 D n K0 K1 m) K0 K1 x0 x1 x2 x3)
def impl_RelOk_x0_0 (D:DX)(n:Nat) (v0_0:Bool) (v0_1:(tSch)×tRows×Unit):Option ((Bool×Unit)×Unit):=some ((v0_0,()),())
def impl_RelOk_x0_1 (D:DX)(n:Nat) (v1_0:(tSch)×tRows×Unit):Option ((Bool×Unit)×Unit):=bindD (C_impl_SchemaOk D (Prod.fst v1_0)) fun b↦some ((bif Prod.fst (Prod.fst b) then decide ((↑(List.length (Prod.fst (Prod.snd v1_0))):Int)≤12) else false,()),())
def impl_RelOk_LP0 (D:DX)(n:Nat):(tRows)→(Int)→(Int)→((tSch)×tRows×Unit)→Option ((Bool×Unit)×Unit):=(fun x0 x1 x2 x3=>impl_RelOk_L0 D n (fun v0_0 v0_1=>impl_RelOk_x0_0 D n v0_0 v0_1) (fun v1_0=>impl_RelOk_x0_1 D n v1_0) n x0 x1 x2 x3)
def impl_RelOk_e (D:DX)(n:Nat) (lp0:tRows→Int→Int→(tSch)×tRows×Unit→Option ((Bool×Unit)×Unit)) (a0:(tSch)×tRows×Unit):Option ((Bool×Unit)×Unit):=lp0 (Prod.fst (Prod.snd a0)) (↑(List.length (Prod.fst (Prod.snd a0))):Int) 0 a0
def F_impl_RelOk (D:DX)(n:Nat) (a0:(tSch)×tRows×Unit):Option ((Bool×Unit)×Unit):=impl_RelOk_e D n (impl_RelOk_LP0 D n) a0
def impl_RelOk_Q0 (x0:tRows) (x1:Int) (x2:Int) (x3:(tSch)×tRows×Unit):St:=stq 55 [(1,AV.addr 1 []),(6,AV.val (Ty.sl (Ty.sl yV)) x0),(7,avI x1),(8,avI x2)] [(1,Root.mk (Ty.pair yS (Ty.pair (Ty.sl (Ty.sl yV)) Ty.unit)) Mk.no x3 true)] 
def impl_RelOk_Q0_0 (v0_0:Bool) (v0_1:(tSch)×tRows×Unit):St:=stq 55 [(1,AV.addr 1 []),(2,AV.val Ty.bool v0_0)] [(1,Root.mk (Ty.pair yS (Ty.pair (Ty.sl (Ty.sl yV)) Ty.unit)) Mk.no v0_1 true)] 
def impl_RelOk_Q0_1 (v1_0:(tSch)×tRows×Unit):St:=stq 55 [(1,AV.addr 1 [])] [(1,Root.mk (Ty.pair yS (Ty.pair (Ty.sl (Ty.sl yV)) Ty.unit)) Mk.no v1_0 true)] 
theorem impl_RelOk_SB0 (D:DX)(n:Nat) (m:Nat) (K:Ex→St→Option (Out ctx 49)) (x0:tRows) (x1:Int) (x2:Int) (x3:(tSch)×
  tRows×Unit) :
  LQ funcTab D n 49 [.r,.l,.r,.l] (m+1) (impl_RelOk_Q0 x0 x1 x2 x3) K=impl_RelOk_b0 D n (fun x0 x1 x2 x3=>LQ funcTab D n 49 [.r,.l,.r,.l] m (impl_RelOk_Q0 x0 x1 x2 x3) K) (fun v0_0 v0_1=>K (Ex.ret) (impl_RelOk_Q0_0 v0_0 v0_1)) (fun v1_0=>K (Ex.exit 0) (impl_RelOk_Q0_1 v1_0)) x0 x1 x2 x3:=by kernel_rfl
theorem impl_RelOk_EL0 (D:DX)(n:Nat) (K:Ex→St→Option (Out ctx 49)):∀ (m:Nat) (x0:tRows) (x1:Int) (x2:Int) (x3:(tSch)×
  tRows×Unit),LQ funcTab D n 49 [.r,.l,.r,.l] m (impl_RelOk_Q0 x0 x1 x2 x3) K=impl_RelOk_L0 D n (fun v0_0 v0_1=>K (Ex.ret) (impl_RelOk_Q0_0 v0_0 v0_1)) (fun v1_0=>K (Ex.exit 0) (impl_RelOk_Q0_1 v1_0)) m x0 x1 x2 x3
  | 0,x0,x1,x2,x3=>LQ_zero ..
  | m+1,x0,x1,x2,x3=>by
    have ih:(fun x0 x1 x2 x3=>LQ funcTab D n 49 [.r,.l,.r,.l] m (impl_RelOk_Q0 x0 x1 x2 x3) K)=impl_RelOk_L0 D n (fun v0_0 v0_1=>K (Ex.ret) (impl_RelOk_Q0_0 v0_0 v0_1)) (fun v1_0=>K (Ex.exit 0) (impl_RelOk_Q0_1 v1_0)) m:=by funext x0 x1 x2 x3;exact impl_RelOk_EL0 D n K m x0 x1 x2 x3
    rw[impl_RelOk_SB0]
    rw[ih];rfl
theorem impl_RelOk_X0_0 (D:DX)(n:Nat) (v0_0:Bool) (v0_1:(tSch)×
  tRows×Unit) :
  (CQ funcTab D n 49 [] [.r,.l,.r,.l] (lastK funcTab 49)) (Ex.ret) (impl_RelOk_Q0_0 v0_0 v0_1)=impl_RelOk_x0_0 D n v0_0 v0_1:=by kernel_rfl
theorem impl_RelOk_X0_1 (D:DX)(n:Nat) (v1_0:(tSch)×
  tRows×Unit) :
  (CQ funcTab D n 49 [] [.r,.l,.r,.l] (lastK funcTab 49)) (Ex.exit 0) (impl_RelOk_Q0_1 v1_0)=impl_RelOk_x0_1 D n v1_0:=by kernel_rfl
theorem impl_RelOk_ELP0 (D:DX)(n:Nat) (x0:tRows) (x1:Int) (x2:Int) (x3:(tSch)×
  tRows×Unit) :
  LQ funcTab D n 49 [.r,.l,.r,.l] n (impl_RelOk_Q0 x0 x1 x2 x3) (CQ funcTab D n 49 [] [.r,.l,.r,.l] (lastK funcTab 49))=impl_RelOk_LP0 D n x0 x1 x2 x3:=by
  rw[impl_RelOk_EL0]
  simp only[impl_RelOk_X0_0,impl_RelOk_X0_1]
  rfl
theorem E_impl_RelOk (D:DX)(n:Nat) (a0:(tSch)×
  tRows×Unit):rfC funcTab D n 49 (a0,())=F_impl_RelOk D n a0:=by
  have h:rfC funcTab D n 49 (a0,())=impl_RelOk_e D n (fun x0 x1 x2 x3=>LQ funcTab D n 49 [.r,.l,.r,.l] n (impl_RelOk_Q0 x0 x1 x2 x3) (CQ funcTab D n 49 [] [.r,.l,.r,.l] (lastK funcTab 49))) a0:=by kernel_rfl
  rw[h]
  simp only[impl_RelOk_ELP0]
  rfl

def spec_DrawRelation_e (D:DX)(n:Nat) (a0:List Int):Option ((((tSch)×tRows×Unit)×tVals×Unit)×Unit):=bindD (C_spec_l1New D a0) fun b↦bindD (C_spec_l21DrawRight D (Prod.fst (Prod.fst b))) fun b↦bindD (C_spec_l21DrawRow D (Prod.fst (Prod.snd b)) (Prod.fst (Prod.fst b))) fun b_1↦some ((Prod.fst (Prod.fst b),Prod.fst (Prod.fst b_1),()),())
def F_spec_DrawRelation (D:DX)(n:Nat) (a0:List Int):Option ((((tSch)×tRows×Unit)×tVals×Unit)×Unit):=spec_DrawRelation_e D n a0
theorem E_spec_DrawRelation (D:DX)(n:Nat) (a0:List Int):rfC funcTab D n 50 (a0,())=F_spec_DrawRelation D n a0:=by kernel_rfl


def spec_Replace_e (D:DX)(n:Nat) (a0:(tSch)×tRows×Unit) (a1:tVals):Option ((((tSch)×tRows×Unit)×Int×Unit)×Unit):=bindD (C_spec_l21Copy D a0) fun b↦bindD (C_spec_RelOk D a0) fun b_1↦br (!Prod.fst (Prod.fst b_1)) (some ((((Prod.fst (Prod.fst (Prod.fst (Prod.fst b))),Prod.fst (Prod.snd (Prod.fst (Prod.fst (Prod.fst b)))),Prod.fst (Prod.snd (Prod.snd (Prod.fst (Prod.fst (Prod.fst b))))),()),Prod.fst (Prod.snd (Prod.fst (Prod.fst b))),()),1,()),())) (bindD (C_spec_RowOk D (Prod.fst a0) a1) fun b_2↦br (!Prod.fst (Prod.fst b_2)) (some ((((Prod.fst (Prod.fst (Prod.fst (Prod.fst b))),Prod.fst (Prod.snd (Prod.fst (Prod.fst (Prod.fst b)))),Prod.fst (Prod.snd (Prod.snd (Prod.fst (Prod.fst (Prod.fst b))))),()),Prod.fst (Prod.snd (Prod.fst (Prod.fst b))),()),1,()),())) (bindD (C_spec_KeyOfRow D (Prod.fst a0) a1) fun b_3↦bindD (C_spec_l21At D a0 (Prod.fst (Prod.fst b_3))) fun b_4↦br (decide (Prod.fst (Prod.fst b_4)<0)) (some ((((Prod.fst (Prod.fst (Prod.fst (Prod.fst b))),Prod.fst (Prod.snd (Prod.fst (Prod.fst (Prod.fst b)))),Prod.fst (Prod.snd (Prod.snd (Prod.fst (Prod.fst (Prod.fst b))))),()),Prod.fst (Prod.snd (Prod.fst (Prod.fst b))),()),4,()),())) (bindD (C_spec_l21Others D a0 a1 (Prod.fst (Prod.fst b_4))) fun b_5↦br (Prod.fst (Prod.fst b_5)) (some ((((Prod.fst (Prod.fst (Prod.fst (Prod.fst b))),Prod.fst (Prod.snd (Prod.fst (Prod.fst (Prod.fst b)))),Prod.fst (Prod.snd (Prod.snd (Prod.fst (Prod.fst (Prod.fst b))))),()),Prod.fst (Prod.snd (Prod.fst (Prod.fst b))),()),3,()),())) (br (decide (0+List.length a1≤bound)) (br (decide (0≤Prod.fst (Prod.fst b_4))&&decide (Prod.fst (Prod.fst b_4)<(↑(List.length (Prod.fst (Prod.snd (Prod.fst (Prod.fst b))))):Int))) (some ((((Prod.fst (Prod.fst (Prod.fst (Prod.fst b))),Prod.fst (Prod.snd (Prod.fst (Prod.fst (Prod.fst b)))),Prod.fst (Prod.snd (Prod.snd (Prod.fst (Prod.fst (Prod.fst b))))),()),List.set (Prod.fst (Prod.snd (Prod.fst (Prod.fst b)))) (Int.toNat (Prod.fst (Prod.fst b_4))) ([]++a1),()),0,()),())) none) none))))
def F_spec_Replace (D:DX)(n:Nat) (a0:(tSch)×tRows×Unit) (a1:tVals):Option ((((tSch)×tRows×Unit)×Int×Unit)×Unit):=spec_Replace_e D n a0 a1
theorem E_spec_Replace (D:DX)(n:Nat) (a0:(tSch)×
  tRows×Unit) (a1:tVals):rfC funcTab D n 52 (a0,(a1,()))=F_spec_Replace D n a0 a1:=by kernel_rfl



def impl_Insert_e (D:DX)(n:Nat) (a0:(tSch)×tRows×Unit) (a1:tVals):Option ((((tSch)×tRows×Unit)×Int×Unit)×Unit):=bindD (C_impl_copyRelation D a0) fun b↦bindD (C_impl_KeyOfRow D (Prod.fst (Prod.fst (Prod.fst (Prod.fst b))),Prod.fst (Prod.snd (Prod.fst (Prod.fst (Prod.fst b)))),Prod.fst (Prod.snd (Prod.snd (Prod.fst (Prod.fst (Prod.fst b))))),()) a1) fun b_1↦bindD (C_impl_RelOk D ((Prod.fst (Prod.fst (Prod.fst (Prod.fst b))),Prod.fst (Prod.snd (Prod.fst (Prod.fst (Prod.fst b)))),Prod.fst (Prod.snd (Prod.snd (Prod.fst (Prod.fst (Prod.fst b))))),()),Prod.fst (Prod.snd (Prod.fst (Prod.fst b))),())) fun b_2↦br (!Prod.fst (Prod.fst b_2)) (some ((((Prod.fst (Prod.fst (Prod.fst (Prod.fst b))),Prod.fst (Prod.snd (Prod.fst (Prod.fst (Prod.fst b)))),Prod.fst (Prod.snd (Prod.snd (Prod.fst (Prod.fst (Prod.fst b))))),()),Prod.fst (Prod.snd (Prod.fst (Prod.fst b))),()),1,()),())) (bindD (C_impl_RowOk D (Prod.fst (Prod.fst (Prod.fst (Prod.fst b))),Prod.fst (Prod.snd (Prod.fst (Prod.fst (Prod.fst b)))),Prod.fst (Prod.snd (Prod.snd (Prod.fst (Prod.fst (Prod.fst b))))),()) a1) fun b_3↦br (!Prod.fst (Prod.fst b_3)) (some ((((Prod.fst (Prod.fst (Prod.fst (Prod.fst b))),Prod.fst (Prod.snd (Prod.fst (Prod.fst (Prod.fst b)))),Prod.fst (Prod.snd (Prod.snd (Prod.fst (Prod.fst (Prod.fst b))))),()),Prod.fst (Prod.snd (Prod.fst (Prod.fst b))),()),1,()),())) (bindD (C_impl_keyAt D ((Prod.fst (Prod.fst (Prod.fst (Prod.fst b))),Prod.fst (Prod.snd (Prod.fst (Prod.fst (Prod.fst b)))),Prod.fst (Prod.snd (Prod.snd (Prod.fst (Prod.fst (Prod.fst b))))),()),Prod.fst (Prod.snd (Prod.fst (Prod.fst b))),()) (Prod.fst (Prod.fst b_1))) fun b_4↦br (decide (Prod.fst (Prod.fst b_4)≥0)) (some ((((Prod.fst (Prod.fst (Prod.fst (Prod.fst b))),Prod.fst (Prod.snd (Prod.fst (Prod.fst (Prod.fst b)))),Prod.fst (Prod.snd (Prod.snd (Prod.fst (Prod.fst (Prod.fst b))))),()),Prod.fst (Prod.snd (Prod.fst (Prod.fst b))),()),2,()),())) (bindD (C_slices_ContainsFunc_impl_Value_impl_Valuex D (Prod.fst (Prod.snd (Prod.fst (Prod.fst b)))) (Clo.mk 129 [CapV.rptr (Ty.pair (Ty.pair (Ty.sl (Ty.pair Ty.str (Ty.pair (Ty.int IntKind.i64) (Ty.pair Ty.bool Ty.unit)))) (Ty.pair (Ty.sl (Ty.int IntKind.i64)) (Ty.pair (Ty.sl (Ty.pair Ty.str (Ty.pair (Ty.sl (Ty.int IntKind.i64)) (Ty.pair Ty.bool Ty.unit)))) Ty.unit))) (Ty.pair (Ty.sl (Ty.sl (Ty.pair (Ty.int IntKind.i64) (Ty.pair (Ty.int IntKind.i64) (Ty.pair Ty.str Ty.unit))))) Ty.unit)) ((Prod.fst (Prod.fst (Prod.fst (Prod.fst b))),Prod.fst (Prod.snd (Prod.fst (Prod.fst (Prod.fst b)))),Prod.fst (Prod.snd (Prod.snd (Prod.fst (Prod.fst (Prod.fst b))))),()),Prod.fst (Prod.snd (Prod.fst (Prod.fst b))),()),CapV.rptr (Ty.sl (Ty.pair (Ty.int IntKind.i64) (Ty.pair (Ty.int IntKind.i64) (Ty.pair Ty.str Ty.unit)))) a1])) fun b_5↦br (Prod.fst (Prod.fst b_5)) (some ((((Prod.fst (Prod.fst (Prod.fst (Prod.fst b))),Prod.fst (Prod.snd (Prod.fst (Prod.fst (Prod.fst b)))),Prod.fst (Prod.snd (Prod.snd (Prod.fst (Prod.fst (Prod.fst b))))),()),Prod.fst (Prod.snd (Prod.fst (Prod.fst b))),()),3,()),())) (br (decide ((↑(List.length (Prod.fst (Prod.snd (Prod.fst (Prod.fst b))))):Int)=12)) (some ((((Prod.fst (Prod.fst (Prod.fst (Prod.fst b))),Prod.fst (Prod.snd (Prod.fst (Prod.fst (Prod.fst b)))),Prod.fst (Prod.snd (Prod.snd (Prod.fst (Prod.fst (Prod.fst b))))),()),Prod.fst (Prod.snd (Prod.fst (Prod.fst b))),()),5,()),())) (bindD (C_slices_IndexFunc_impl_Value_impl_Value D (Prod.fst (Prod.snd (Prod.fst (Prod.fst b)))) (Clo.mk 131 [CapV.rptr (Ty.sl (Ty.pair (Ty.int IntKind.i64) (Ty.pair (Ty.int IntKind.i64) (Ty.pair Ty.str Ty.unit)))) (Prod.fst (Prod.fst b_1)),CapV.rptr (Ty.pair (Ty.pair (Ty.sl (Ty.pair Ty.str (Ty.pair (Ty.int IntKind.i64) (Ty.pair Ty.bool Ty.unit)))) (Ty.pair (Ty.sl (Ty.int IntKind.i64)) (Ty.pair (Ty.sl (Ty.pair Ty.str (Ty.pair (Ty.sl (Ty.int IntKind.i64)) (Ty.pair Ty.bool Ty.unit)))) Ty.unit))) (Ty.pair (Ty.sl (Ty.sl (Ty.pair (Ty.int IntKind.i64) (Ty.pair (Ty.int IntKind.i64) (Ty.pair Ty.str Ty.unit))))) Ty.unit)) ((Prod.fst (Prod.fst (Prod.fst (Prod.fst b))),Prod.fst (Prod.snd (Prod.fst (Prod.fst (Prod.fst b)))),Prod.fst (Prod.snd (Prod.snd (Prod.fst (Prod.fst (Prod.fst b))))),()),Prod.fst (Prod.snd (Prod.fst (Prod.fst b))),())])) fun b_6↦br (decide (Prod.fst (Prod.fst b_6)<0)) (bindD (C_slices_Clone_impl_Value_impl_Value D a1) fun b_7↦bindD (C_slices_Insert_impl_Value_impl_Value D (Prod.fst (Prod.snd (Prod.fst (Prod.fst b)))) (↑(List.length (Prod.fst (Prod.snd (Prod.fst (Prod.fst b))))):Int) [Prod.fst (Prod.fst b_7)]) fun b_8↦some ((((Prod.fst (Prod.fst (Prod.fst (Prod.fst b))),Prod.fst (Prod.snd (Prod.fst (Prod.fst (Prod.fst b)))),Prod.fst (Prod.snd (Prod.snd (Prod.fst (Prod.fst (Prod.fst b))))),()),Prod.fst (Prod.fst b_8),()),0,()),())) (bindD (C_slices_Clone_impl_Value_impl_Value D a1) fun b_7↦bindD (C_slices_Insert_impl_Value_impl_Value D (Prod.fst (Prod.snd (Prod.fst (Prod.fst b)))) (Prod.fst (Prod.fst b_6)) [Prod.fst (Prod.fst b_7)]) fun b_8↦some ((((Prod.fst (Prod.fst (Prod.fst (Prod.fst b))),Prod.fst (Prod.snd (Prod.fst (Prod.fst (Prod.fst b)))),Prod.fst (Prod.snd (Prod.snd (Prod.fst (Prod.fst (Prod.fst b))))),()),Prod.fst (Prod.fst b_8),()),0,()),())))))))
def F_impl_Insert (D:DX)(n:Nat) (a0:(tSch)×tRows×Unit) (a1:tVals):Option ((((tSch)×tRows×Unit)×Int×Unit)×Unit):=impl_Insert_e D n a0 a1
theorem E_impl_Insert (D:DX)(n:Nat) (a0:(tSch)×
  tRows×Unit) (a1:tVals):rfC funcTab D n 55 (a0,(a1,()))=F_impl_Insert D n a0 a1:=by kernel_rfl

def impl_Project_b0 (D:DX)(n:Nat) (go:tVals→List Int→Int→Int→tVals→Option ((tVals×Unit)×Unit)) (K0:tVals→Option ((tVals×Unit)×Unit)) (x0:tVals) (x1:List Int) (x2:Int) (x3:Int) (x4:tVals):Option ((tVals×Unit)×Unit):=br (decide (x3<x2)) (br (decide (0≤x3)&&decide (x3<(↑(List.length x1):Int))) (bindD (C_impl_from D (List.getD x1 (Int.toNat x3) 0) 0 (IntKind.wrap IntKind.i64 ((↑(List.length x0):Int) - 1))) fun b↦br (Prod.fst (Prod.fst b)) (br (decide (0≤List.getD x1 (Int.toNat x3) 0)&&decide (List.getD x1 (Int.toNat x3) 0<(↑(List.length x0):Int))) (br (decide (List.length x4+1≤bound)) (go x0 x1 x2 (IntKind.wrap IntKind.i64 (x3+1)) (x4++[List.getD x0 (Int.toNat (List.getD x1 (Int.toNat x3) 0)) (0,0,ByteArray.empty,())])) none) none) (go x0 x1 x2 (IntKind.wrap IntKind.i64 (x3+1)) x4)) none) (K0 x4)
def impl_Project_L0 (D:DX)(n:Nat) (K0:tVals→Option ((tVals×Unit)×Unit)):Nat→(tVals)→(List Int)→(Int)→(Int)→(tVals)→Option ((tVals×Unit)×Unit) | 0=>(fun x0 x1 x2 x3 x4=>none) | m+1=>(fun x0 x1 x2 x3 x4=>impl_Project_b0 D n (impl_Project_L0 D n K0 m) K0 x0 x1 x2 x3 x4)
def impl_Project_x0_0 (D:DX)(n:Nat) (v0_0:tVals):Option ((tVals×Unit)×Unit):=some ((v0_0,()),())
def impl_Project_LP0 (D:DX)(n:Nat):(tVals)→(List Int)→(Int)→(Int)→(tVals)→Option ((tVals×Unit)×Unit):=(fun x0 x1 x2 x3 x4=>impl_Project_L0 D n (fun v0_0=>impl_Project_x0_0 D n v0_0) n x0 x1 x2 x3 x4)
def impl_Project_e (D:DX)(n:Nat) (lp0:tVals→List Int→Int→Int→tVals→Option ((tVals×Unit)×Unit)) (a0:tVals) (a1:List Int):Option ((tVals×Unit)×Unit):=lp0 a0 a1 (↑(List.length a1):Int) 0 []
def F_impl_Project (D:DX)(n:Nat) (a0:tVals) (a1:List Int):Option ((tVals×Unit)×Unit):=impl_Project_e D n (impl_Project_LP0 D n) a0 a1
def impl_Project_Q0 (x0:tVals) (x1:List Int) (x2:Int) (x3:Int) (x4:tVals):St:=stq 29 [(0,AV.val (Ty.sl yV) x0),(5,AV.brw 5 [] 0),(9,AV.val (Ty.sl yI) x1),(10,avI x2),(11,avI x3)] [(5,Root.mk (Ty.sl yV) (Mk.own 0 (Mk.pr Mk.no (Mk.pr Mk.no (Mk.pr Mk.no Mk.no)))) x4 false)] 
def impl_Project_Q0_0 (v0_0:tVals):St:=stq 29 [(5,AV.brw 5 [] 0)] [(5,Root.mk (Ty.sl yV) (Mk.own 0 (Mk.pr Mk.no (Mk.pr Mk.no (Mk.pr Mk.no Mk.no)))) v0_0 false)] 
theorem impl_Project_SB0 (D:DX)(n:Nat) (m:Nat) (K:Ex→St→Option (Out ctx 56)) (x0:tVals) (x1:List Int) (x2:Int) (x3:Int) (x4:tVals) :
  LQ funcTab D n 56 [.r,.r,.l,.r,.l] (m+1) (impl_Project_Q0 x0 x1 x2 x3 x4) K=impl_Project_b0 D n (fun x0 x1 x2 x3 x4=>LQ funcTab D n 56 [.r,.r,.l,.r,.l] m (impl_Project_Q0 x0 x1 x2 x3 x4) K) (fun v0_0=>K (Ex.exit 0) (impl_Project_Q0_0 v0_0)) x0 x1 x2 x3 x4:=by kernel_rfl
theorem impl_Project_EL0 (D:DX)(n:Nat) (K:Ex→St→Option (Out ctx 56)):∀ (m:Nat) (x0:tVals) (x1:List Int) (x2:Int) (x3:Int) (x4:tVals),LQ funcTab D n 56 [.r,.r,.l,.r,.l] m (impl_Project_Q0 x0 x1 x2 x3 x4) K=impl_Project_L0 D n (fun v0_0=>K (Ex.exit 0) (impl_Project_Q0_0 v0_0)) m x0 x1 x2 x3 x4
  | 0,x0,x1,x2,x3,x4=>LQ_zero ..
  | m+1,x0,x1,x2,x3,x4=>by
    have ih:(fun x0 x1 x2 x3 x4=>LQ funcTab D n 56 [.r,.r,.l,.r,.l] m (impl_Project_Q0 x0 x1 x2 x3 x4) K)=impl_Project_L0 D n (fun v0_0=>K (Ex.exit 0) (impl_Project_Q0_0 v0_0)) m:=by funext x0 x1 x2 x3 x4;exact impl_Project_EL0 D n K m x0 x1 x2 x3 x4
    rw[impl_Project_SB0]
    rw[ih];rfl
theorem impl_Project_X0_0 (D:DX)(n:Nat) (v0_0:tVals) :
  (CQ funcTab D n 56 [] [.r,.r,.l,.r,.l] (lastK funcTab 56)) (Ex.exit 0) (impl_Project_Q0_0 v0_0)=impl_Project_x0_0 D n v0_0:=by kernel_rfl
theorem impl_Project_ELP0 (D:DX)(n:Nat) (x0:tVals) (x1:List Int) (x2:Int) (x3:Int) (x4:tVals) :
  LQ funcTab D n 56 [.r,.r,.l,.r,.l] n (impl_Project_Q0 x0 x1 x2 x3 x4) (CQ funcTab D n 56 [] [.r,.r,.l,.r,.l] (lastK funcTab 56))=impl_Project_LP0 D n x0 x1 x2 x3 x4:=by
  rw[impl_Project_EL0]
  simp only[impl_Project_X0_0]
  rfl
theorem E_impl_Project (D:DX)(n:Nat) (a0:tVals) (a1:List Int):rfC funcTab D n 56 (a0,(a1,()))=F_impl_Project D n a0 a1:=by
  have h:rfC funcTab D n 56 (a0,(a1,()))=impl_Project_e D n (fun x0 x1 x2 x3 x4=>LQ funcTab D n 56 [.r,.r,.l,.r,.l] n (impl_Project_Q0 x0 x1 x2 x3 x4) (CQ funcTab D n 56 [] [.r,.r,.l,.r,.l] (lastK funcTab 56))) a0 a1:=by kernel_rfl
  rw[h]
  simp only[impl_Project_ELP0]
  rfl

def laws_hasNull_b0 (D:DX)(n:Nat) (go:tVals→Int→Option ((Bool×Unit)×Unit)) (K0:Bool→Option ((Bool×Unit)×Unit)) (K1:Option ((Bool×Unit)×Unit)) (x0:tVals) (x1:Int):Option ((Bool×Unit)×Unit):=br (decide (x1<(↑(List.length x0):Int))) (br (decide (0≤x1)&&decide (x1<(↑(List.length x0):Int))) (br (decide (Prod.fst (List.getD x0 (Int.toNat x1) (0,0,ByteArray.empty,()))=0)) (K0 true) (go x0 (IntKind.wrap IntKind.i64 (x1+1)))) none) K1
def laws_hasNull_L0 (D:DX)(n:Nat) (K0:Bool→Option ((Bool×Unit)×Unit)) (K1:Option ((Bool×Unit)×Unit)):Nat→(tVals)→(Int)→Option ((Bool×Unit)×Unit) | 0=>(fun x0 x1=>none) | m+1=>(fun x0 x1=>laws_hasNull_b0 D n (laws_hasNull_L0 D n K0 K1 m) K0 K1 x0 x1)
def laws_hasNull_x0_0 (D:DX)(n:Nat) (v0_0:Bool):Option ((Bool×Unit)×Unit):=some ((v0_0,()),())
def laws_hasNull_x0_1 (D:DX)(n:Nat):Option ((Bool×Unit)×Unit):=some ((false,()),())
def laws_hasNull_LP0 (D:DX)(n:Nat):(tVals)→(Int)→Option ((Bool×Unit)×Unit):=(fun x0 x1=>laws_hasNull_L0 D n (fun v0_0=>laws_hasNull_x0_0 D n v0_0) (laws_hasNull_x0_1 D n) n x0 x1)
def laws_hasNull_e (D:DX)(n:Nat) (lp0:tVals→Int→Option ((Bool×Unit)×Unit)) (a0:tVals):Option ((Bool×Unit)×Unit):=lp0 a0 0
def F_laws_hasNull (D:DX)(n:Nat) (a0:tVals):Option ((Bool×Unit)×Unit):=laws_hasNull_e D n (laws_hasNull_LP0 D n) a0
def laws_hasNull_Q0 (x0:tVals) (x1:Int):St:=stq 16 [(0,AV.val (Ty.sl yV) x0),(3,avI x1)] [] 
def laws_hasNull_Q0_0 (v0_0:Bool):St:=stq 16 [(2,AV.val Ty.bool v0_0)] [] 
def laws_hasNull_Q0_1:St:=stq 16 [] [] 
theorem laws_hasNull_SB0 (D:DX)(n:Nat) (m:Nat) (K:Ex→St→Option (Out ctx 57)) (x0:tVals) (x1:Int) :
  LQ funcTab D n 57 [.r,.l,.r,.l] (m+1) (laws_hasNull_Q0 x0 x1) K=laws_hasNull_b0 D n (fun x0 x1=>LQ funcTab D n 57 [.r,.l,.r,.l] m (laws_hasNull_Q0 x0 x1) K) (fun v0_0=>K (Ex.ret) (laws_hasNull_Q0_0 v0_0)) (K (Ex.exit 0) (laws_hasNull_Q0_1)) x0 x1:=by kernel_rfl
theorem laws_hasNull_EL0 (D:DX)(n:Nat) (K:Ex→St→Option (Out ctx 57)):∀ (m:Nat) (x0:tVals) (x1:Int),LQ funcTab D n 57 [.r,.l,.r,.l] m (laws_hasNull_Q0 x0 x1) K=laws_hasNull_L0 D n (fun v0_0=>K (Ex.ret) (laws_hasNull_Q0_0 v0_0)) (K (Ex.exit 0) (laws_hasNull_Q0_1)) m x0 x1
  | 0,x0,x1=>LQ_zero ..
  | m+1,x0,x1=>by
    have ih:(fun x0 x1=>LQ funcTab D n 57 [.r,.l,.r,.l] m (laws_hasNull_Q0 x0 x1) K)=laws_hasNull_L0 D n (fun v0_0=>K (Ex.ret) (laws_hasNull_Q0_0 v0_0)) (K (Ex.exit 0) (laws_hasNull_Q0_1)) m:=by funext x0 x1;exact laws_hasNull_EL0 D n K m x0 x1
    rw[laws_hasNull_SB0]
    rw[ih];rfl
theorem laws_hasNull_X0_0 (D:DX)(n:Nat) (v0_0:Bool) :
  (CQ funcTab D n 57 [] [.r,.l,.r,.l] (lastK funcTab 57)) (Ex.ret) (laws_hasNull_Q0_0 v0_0)=laws_hasNull_x0_0 D n v0_0:=by kernel_rfl
theorem laws_hasNull_X0_1 (D:DX)(n:Nat) :
  (CQ funcTab D n 57 [] [.r,.l,.r,.l] (lastK funcTab 57)) (Ex.exit 0) (laws_hasNull_Q0_1)=laws_hasNull_x0_1 D n:=by kernel_rfl
theorem laws_hasNull_ELP0 (D:DX)(n:Nat) (x0:tVals) (x1:Int) :
  LQ funcTab D n 57 [.r,.l,.r,.l] n (laws_hasNull_Q0 x0 x1) (CQ funcTab D n 57 [] [.r,.l,.r,.l] (lastK funcTab 57))=laws_hasNull_LP0 D n x0 x1:=by
  rw[laws_hasNull_EL0]
  simp only[laws_hasNull_X0_0,laws_hasNull_X0_1]
  rfl
theorem E_laws_hasNull (D:DX)(n:Nat) (a0:tVals):rfC funcTab D n 57 (a0,())=F_laws_hasNull D n a0:=by
  have h:rfC funcTab D n 57 (a0,())=laws_hasNull_e D n (fun x0 x1=>LQ funcTab D n 57 [.r,.l,.r,.l] n (laws_hasNull_Q0 x0 x1) (CQ funcTab D n 57 [] [.r,.l,.r,.l] (lastK funcTab 57))) a0:=by kernel_rfl
  rw[h]
  simp only[laws_hasNull_ELP0]
  rfl



def spec_RelNew_e (D:DX)(n:Nat) (a0:tSch):Option ((((tSch)×tRows×Unit)×Bool×Unit)×Unit):=bindD (C_spec_l19Copy D a0) fun b↦bindD (C_spec_RelOk D ((Prod.fst (Prod.fst (Prod.fst b)),Prod.fst (Prod.snd (Prod.fst (Prod.fst b))),Prod.fst (Prod.snd (Prod.snd (Prod.fst (Prod.fst b)))),()),[],())) fun b_1↦br (!Prod.fst (Prod.fst b_1)) (some (((([],[],[],()),[],()),false,()),())) (some ((((Prod.fst (Prod.fst (Prod.fst b)),Prod.fst (Prod.snd (Prod.fst (Prod.fst b))),Prod.fst (Prod.snd (Prod.snd (Prod.fst (Prod.fst b)))),()),[],()),true,()),()))
def F_spec_RelNew (D:DX)(n:Nat) (a0:tSch):Option ((((tSch)×tRows×Unit)×Bool×Unit)×Unit):=spec_RelNew_e D n a0
theorem E_spec_RelNew (D:DX)(n:Nat) (a0:tSch):rfC funcTab D n 60 (a0,())=F_spec_RelNew D n a0:=by kernel_rfl



def spec_Insert_b0 (D:DX)(n:Nat) (go:tVals→Int→(tSch)×tRows×Unit→(tSch)×tRows×Unit→(tSch)×tRows×Unit→Option ((((tSch)×tRows×Unit)×Int×Unit)×Unit)) (K0:tVals→Int→(tSch)×tRows×Unit→(tSch)×tRows×Unit→(tSch)×tRows×Unit→Option ((((tSch)×tRows×Unit)×Int×Unit)×Unit)) (x0:tVals) (x1:Int) (x2:(tSch)×tRows×Unit) (x3:(tSch)×tRows×Unit) (x4:(tSch)×tRows×Unit):Option ((((tSch)×tRows×Unit)×Int×Unit)×Unit):=br (decide (x1<(↑(List.length (Prod.fst (Prod.snd x2))):Int))) (br (decide (0≤x1)&&decide (x1<(↑(List.length (Prod.fst (Prod.snd x2))):Int))) (bindD (C_spec_KeyOfRow D (Prod.fst x2) (List.getD (Prod.fst (Prod.snd x2)) (Int.toNat x1) [])) fun b↦bindD (C_spec_KeyOfRow D (Prod.fst x2) x0) fun b_1↦bindD (C_spec_TupleLess D (Prod.fst (Prod.fst b)) (Prod.fst (Prod.fst b_1))) fun b↦br (Prod.fst (Prod.fst b)) (go x0 (IntKind.wrap IntKind.i64 (x1+1)) x2 x3 x4) (K0 x0 x1 x2 x3 x4)) none) (K0 x0 x1 x2 x3 x4)
def spec_Insert_L0 (D:DX)(n:Nat) (K0:tVals→Int→(tSch)×tRows×Unit→(tSch)×tRows×Unit→(tSch)×tRows×Unit→Option ((((tSch)×tRows×Unit)×Int×Unit)×Unit)):Nat→(tVals)→(Int)→((tSch)×tRows×Unit)→((tSch)×tRows×Unit)→((tSch)×tRows×Unit)→Option ((((tSch)×tRows×Unit)×Int×Unit)×Unit) | 0=>(fun x0 x1 x2 x3 x4=>none) | m+1=>(fun x0 x1 x2 x3 x4=>spec_Insert_b0 D n (spec_Insert_L0 D n K0 m) K0 x0 x1 x2 x3 x4)
def spec_Insert_x0_0 (D:DX)(n:Nat) (v0_0:tVals) (v0_1:Int) (v0_2:(tSch)×tRows×Unit) (v0_3:(tSch)×tRows×Unit) (v0_4:(tSch)×tRows×Unit):Option ((((tSch)×tRows×Unit)×Int×Unit)×Unit):=br (decide (0≤0)&&decide (0≤v0_1)&&decide (v0_1≤(↑(List.length (Prod.fst (Prod.snd v0_2))):Int))) (bindD (C_spec_l21Rows D (List.drop (Int.toNat 0) (List.take (Int.toNat v0_1) (Prod.fst (Prod.snd v0_2))))) fun b↦br (decide (0+List.length v0_0≤bound)) (br (decide (List.length (Prod.fst (Prod.fst b))+1≤bound)) (br (decide (0≤v0_1)&&decide (v0_1≤(↑(List.length (Prod.fst (Prod.snd v0_2))):Int))&&decide ((↑(List.length (Prod.fst (Prod.snd v0_2))):Int)≤(↑(List.length (Prod.fst (Prod.snd v0_2))):Int))) (bindD (C_spec_l21Rows D (List.drop (Int.toNat v0_1) (List.take (Int.toNat (↑(List.length (Prod.fst (Prod.snd v0_2))):Int)) (Prod.fst (Prod.snd v0_2))))) fun b_1↦br (decide (List.length (Prod.fst (Prod.fst b)++[[]++v0_0])+List.length (Prod.fst (Prod.fst b_1))≤bound)) (some ((((Prod.fst (Prod.fst v0_4),Prod.fst (Prod.snd (Prod.fst v0_4)),Prod.fst (Prod.snd (Prod.snd (Prod.fst v0_4))),()),Prod.fst (Prod.fst b)++[[]++v0_0]++Prod.fst (Prod.fst b_1),()),0,()),())) none) none) none) none) none
def spec_Insert_LP0 (D:DX)(n:Nat):(tVals)→(Int)→((tSch)×tRows×Unit)→((tSch)×tRows×Unit)→((tSch)×tRows×Unit)→Option ((((tSch)×tRows×Unit)×Int×Unit)×Unit):=(fun x0 x1 x2 x3 x4=>spec_Insert_L0 D n (fun v0_0 v0_1 v0_2 v0_3 v0_4=>spec_Insert_x0_0 D n v0_0 v0_1 v0_2 v0_3 v0_4) n x0 x1 x2 x3 x4)
def spec_Insert_e (D:DX)(n:Nat) (lp0:tVals→Int→(tSch)×tRows×Unit→(tSch)×tRows×Unit→(tSch)×tRows×Unit→Option ((((tSch)×tRows×Unit)×Int×Unit)×Unit)) (a0:(tSch)×tRows×Unit) (a1:tVals):Option ((((tSch)×tRows×Unit)×Int×Unit)×Unit):=bindD (C_spec_l21Copy D a0) fun b↦bindD (C_spec_RelOk D a0) fun b_1↦br (!Prod.fst (Prod.fst b_1)) (some ((((Prod.fst (Prod.fst (Prod.fst (Prod.fst b))),Prod.fst (Prod.snd (Prod.fst (Prod.fst (Prod.fst b)))),Prod.fst (Prod.snd (Prod.snd (Prod.fst (Prod.fst (Prod.fst b))))),()),Prod.fst (Prod.snd (Prod.fst (Prod.fst b))),()),1,()),())) (bindD (C_spec_RowOk D (Prod.fst a0) a1) fun b_2↦br (!Prod.fst (Prod.fst b_2)) (some ((((Prod.fst (Prod.fst (Prod.fst (Prod.fst b))),Prod.fst (Prod.snd (Prod.fst (Prod.fst (Prod.fst b)))),Prod.fst (Prod.snd (Prod.snd (Prod.fst (Prod.fst (Prod.fst b))))),()),Prod.fst (Prod.snd (Prod.fst (Prod.fst b))),()),1,()),())) (bindD (C_spec_KeyOfRow D (Prod.fst a0) a1) fun b_3↦bindD (C_spec_l21At D a0 (Prod.fst (Prod.fst b_3))) fun b_4↦br (decide (Prod.fst (Prod.fst b_4)≥0)) (some ((((Prod.fst (Prod.fst (Prod.fst (Prod.fst b))),Prod.fst (Prod.snd (Prod.fst (Prod.fst (Prod.fst b)))),Prod.fst (Prod.snd (Prod.snd (Prod.fst (Prod.fst (Prod.fst b))))),()),Prod.fst (Prod.snd (Prod.fst (Prod.fst b))),()),2,()),())) (bindD (C_spec_l21Others D a0 a1 (-1)) fun b_5↦br (Prod.fst (Prod.fst b_5)) (some ((((Prod.fst (Prod.fst (Prod.fst (Prod.fst b))),Prod.fst (Prod.snd (Prod.fst (Prod.fst (Prod.fst b)))),Prod.fst (Prod.snd (Prod.snd (Prod.fst (Prod.fst (Prod.fst b))))),()),Prod.fst (Prod.snd (Prod.fst (Prod.fst b))),()),3,()),())) (br (decide ((↑(List.length (Prod.fst (Prod.snd a0))):Int)≥12)) (some ((((Prod.fst (Prod.fst (Prod.fst (Prod.fst b))),Prod.fst (Prod.snd (Prod.fst (Prod.fst (Prod.fst b)))),Prod.fst (Prod.snd (Prod.snd (Prod.fst (Prod.fst (Prod.fst b))))),()),Prod.fst (Prod.snd (Prod.fst (Prod.fst b))),()),5,()),())) (lp0 a1 0 a0 (([],[],[],()),[],()) ((Prod.fst (Prod.fst (Prod.fst (Prod.fst b))),Prod.fst (Prod.snd (Prod.fst (Prod.fst (Prod.fst b)))),Prod.fst (Prod.snd (Prod.snd (Prod.fst (Prod.fst (Prod.fst b))))),()),Prod.fst (Prod.snd (Prod.fst (Prod.fst b))),()))))))
def F_spec_Insert (D:DX)(n:Nat) (a0:(tSch)×tRows×Unit) (a1:tVals):Option ((((tSch)×tRows×Unit)×Int×Unit)×Unit):=spec_Insert_e D n (spec_Insert_LP0 D n) a0 a1
def spec_Insert_Q0 (x0:tVals) (x1:Int) (x2:(tSch)×tRows×Unit) (x3:(tSch)×tRows×Unit) (x4:(tSch)×tRows×Unit):St:=stq 91 [(1,AV.val (Ty.sl yV) x0),(2,AV.addr 2 []),(4,AV.addr 4 []),(6,AV.addr 6 []),(7,avI x1)] [(2,Root.mk (Ty.pair yS (Ty.pair (Ty.sl (Ty.sl yV)) Ty.unit)) Mk.no x2 true),(4,Root.mk (Ty.pair yS (Ty.pair (Ty.sl (Ty.sl yV)) Ty.unit)) (Mk.pr (Mk.pr (Mk.own 0 (Mk.pr Mk.no (Mk.pr Mk.no (Mk.pr Mk.no Mk.no)))) (Mk.pr (Mk.own 0 Mk.no) (Mk.pr (Mk.own 0 (Mk.pr Mk.no (Mk.pr (Mk.own 0 Mk.no) (Mk.pr Mk.no Mk.no)))) Mk.no))) (Mk.pr (Mk.own 0 (Mk.own 0 (Mk.pr Mk.no (Mk.pr Mk.no (Mk.pr Mk.no Mk.no))))) Mk.no)) x3 true),(6,Root.mk (Ty.pair yS (Ty.pair (Ty.sl (Ty.sl yV)) Ty.unit)) (Mk.pr (Mk.pr (Mk.own 0 (Mk.pr Mk.no (Mk.pr Mk.no (Mk.pr Mk.no Mk.no)))) (Mk.pr (Mk.own 0 Mk.no) (Mk.pr (Mk.own 0 (Mk.pr Mk.no (Mk.pr (Mk.own 0 Mk.no) (Mk.pr Mk.no Mk.no)))) Mk.no))) (Mk.pr (Mk.own 0 (Mk.own 0 (Mk.pr Mk.no (Mk.pr Mk.no (Mk.pr Mk.no Mk.no))))) Mk.no)) x4 true)] 
def spec_Insert_Q0_0 (v0_0:tVals) (v0_1:Int) (v0_2:(tSch)×tRows×Unit) (v0_3:(tSch)×tRows×Unit) (v0_4:(tSch)×tRows×Unit):St:=stq 91 [(1,AV.val (Ty.sl yV) v0_0),(2,AV.addr 2 []),(4,AV.addr 4 []),(6,AV.addr 6 []),(7,avI v0_1)] [(2,Root.mk (Ty.pair yS (Ty.pair (Ty.sl (Ty.sl yV)) Ty.unit)) Mk.no v0_2 true),(4,Root.mk (Ty.pair yS (Ty.pair (Ty.sl (Ty.sl yV)) Ty.unit)) (Mk.pr (Mk.pr (Mk.own 0 (Mk.pr Mk.no (Mk.pr Mk.no (Mk.pr Mk.no Mk.no)))) (Mk.pr (Mk.own 0 Mk.no) (Mk.pr (Mk.own 0 (Mk.pr Mk.no (Mk.pr (Mk.own 0 Mk.no) (Mk.pr Mk.no Mk.no)))) Mk.no))) (Mk.pr (Mk.own 0 (Mk.own 0 (Mk.pr Mk.no (Mk.pr Mk.no (Mk.pr Mk.no Mk.no))))) Mk.no)) v0_3 true),(6,Root.mk (Ty.pair yS (Ty.pair (Ty.sl (Ty.sl yV)) Ty.unit)) (Mk.pr (Mk.pr (Mk.own 0 (Mk.pr Mk.no (Mk.pr Mk.no (Mk.pr Mk.no Mk.no)))) (Mk.pr (Mk.own 0 Mk.no) (Mk.pr (Mk.own 0 (Mk.pr Mk.no (Mk.pr (Mk.own 0 Mk.no) (Mk.pr Mk.no Mk.no)))) Mk.no))) (Mk.pr (Mk.own 0 (Mk.own 0 (Mk.pr Mk.no (Mk.pr Mk.no (Mk.pr Mk.no Mk.no))))) Mk.no)) v0_4 true)] 
theorem spec_Insert_SB0 (D:DX)(n:Nat) (m:Nat) (K:Ex→St→Option (Out ctx 63)) (x0:tVals) (x1:Int) (x2:(tSch)×
  tRows×Unit) (x3:(tSch)×
  tRows×Unit) (x4:(tSch)×
  tRows×Unit) :
  LQ funcTab D n 63 [.r,.r,.r,.r,.l,.l] (m+1) (spec_Insert_Q0 x0 x1 x2 x3 x4) K=spec_Insert_b0 D n (fun x0 x1 x2 x3 x4=>LQ funcTab D n 63 [.r,.r,.r,.r,.l,.l] m (spec_Insert_Q0 x0 x1 x2 x3 x4) K) (fun v0_0 v0_1 v0_2 v0_3 v0_4=>K (Ex.exit 1) (spec_Insert_Q0_0 v0_0 v0_1 v0_2 v0_3 v0_4)) x0 x1 x2 x3 x4:=by kernel_rfl
theorem spec_Insert_EL0 (D:DX)(n:Nat) (K:Ex→St→Option (Out ctx 63)):∀ (m:Nat) (x0:tVals) (x1:Int) (x2:(tSch)×
  tRows×Unit) (x3:(tSch)×
  tRows×Unit) (x4:(tSch)×
  tRows×Unit),LQ funcTab D n 63 [.r,.r,.r,.r,.l,.l] m (spec_Insert_Q0 x0 x1 x2 x3 x4) K=spec_Insert_L0 D n (fun v0_0 v0_1 v0_2 v0_3 v0_4=>K (Ex.exit 1) (spec_Insert_Q0_0 v0_0 v0_1 v0_2 v0_3 v0_4)) m x0 x1 x2 x3 x4
  | 0,x0,x1,x2,x3,x4=>LQ_zero ..
  | m+1,x0,x1,x2,x3,x4=>by
    have ih:(fun x0 x1 x2 x3 x4=>LQ funcTab D n 63 [.r,.r,.r,.r,.l,.l] m (spec_Insert_Q0 x0 x1 x2 x3 x4) K)=spec_Insert_L0 D n (fun v0_0 v0_1 v0_2 v0_3 v0_4=>K (Ex.exit 1) (spec_Insert_Q0_0 v0_0 v0_1 v0_2 v0_3 v0_4)) m:=by funext x0 x1 x2 x3 x4;exact spec_Insert_EL0 D n K m x0 x1 x2 x3 x4
    rw[spec_Insert_SB0]
    rw[ih];rfl
theorem spec_Insert_X0_0 (D:DX)(n:Nat) (v0_0:tVals) (v0_1:Int) (v0_2:(tSch)×
  tRows×Unit) (v0_3:(tSch)×
  tRows×Unit) (v0_4:(tSch)×
  tRows×Unit) :
  (CQ funcTab D n 63 [] [.r,.r,.r,.r,.l,.l] (lastK funcTab 63)) (Ex.exit 1) (spec_Insert_Q0_0 v0_0 v0_1 v0_2 v0_3 v0_4)=spec_Insert_x0_0 D n v0_0 v0_1 v0_2 v0_3 v0_4:=by kernel_rfl
theorem spec_Insert_ELP0 (D:DX)(n:Nat) (x0:tVals) (x1:Int) (x2:(tSch)×
  tRows×Unit) (x3:(tSch)×
  tRows×Unit) (x4:(tSch)×
  tRows×Unit) :
  LQ funcTab D n 63 [.r,.r,.r,.r,.l,.l] n (spec_Insert_Q0 x0 x1 x2 x3 x4) (CQ funcTab D n 63 [] [.r,.r,.r,.r,.l,.l] (lastK funcTab 63))=spec_Insert_LP0 D n x0 x1 x2 x3 x4:=by
  rw[spec_Insert_EL0]
  simp only[spec_Insert_X0_0]
  rfl
theorem E_spec_Insert (D:DX)(n:Nat) (a0:(tSch)×
  tRows×Unit) (a1:tVals):rfC funcTab D n 63 (a0,(a1,()))=F_spec_Insert D n a0 a1:=by
  have h:rfC funcTab D n 63 (a0,(a1,()))=spec_Insert_e D n (fun x0 x1 x2 x3 x4=>LQ funcTab D n 63 [.r,.r,.r,.r,.l,.l] n (spec_Insert_Q0 x0 x1 x2 x3 x4) (CQ funcTab D n 63 [] [.r,.r,.r,.r,.l,.l] (lastK funcTab 63))) a0 a1:=by kernel_rfl
  rw[h]
  simp only[spec_Insert_ELP0]
  rfl





def spec_l1In_e (D:DX)(n:Nat) (a0:Int) (a1:Int) (a2:Int):Option ((Bool×Unit)×Unit):=some ((bif decide (a0≥a1) then decide (a0≤a2) else false,()),())
def F_spec_l1In (D:DX)(n:Nat) (a0:Int) (a1:Int) (a2:Int):Option ((Bool×Unit)×Unit):=spec_l1In_e D n a0 a1 a2
theorem E_spec_l1In (D:DX)(n:Nat) (a0:Int) (a1:Int) (a2:Int):rfC funcTab D n 73 (a0,(a1,(a2,())))=F_spec_l1In D n a0 a1 a2:=by kernel_rfl

def spec_l19Places_b1 (D:DX)(n:Nat) (go:List Int→Int→Int→Int→tSch→Option ((Bool×Unit)×Unit)) (K0:List Int→Int→Bool→Int→tSch→Option ((Bool×Unit)×Unit)) (K1:List Int→Int→Int→tSch→Option ((Bool×Unit)×Unit)) (x1_0:List Int) (x1_1:Int) (x1_2:Int) (x1_3:Int) (x1_4:tSch):Option ((Bool×Unit)×Unit):=br (decide (x1_3<x1_2)) (br (decide (0≤x1_3)&&decide (x1_3<(↑(List.length x1_0):Int))) (br (decide (0≤x1_2)&&decide (x1_2<(↑(List.length x1_0):Int))) (br (decide (List.getD x1_0 (Int.toNat x1_3) 0=List.getD x1_0 (Int.toNat x1_2) 0)) (K0 x1_0 x1_1 false x1_2 x1_4) (go x1_0 x1_1 x1_2 (IntKind.wrap IntKind.i64 (x1_3+1)) x1_4)) none) none) (K1 x1_0 x1_1 x1_2 x1_4)
def spec_l19Places_L1 (D:DX)(n:Nat) (K0:List Int→Int→Bool→Int→tSch→Option ((Bool×Unit)×Unit)) (K1:List Int→Int→Int→tSch→Option ((Bool×Unit)×Unit)):Nat→(List Int)→(Int)→(Int)→(Int)→(tSch)→Option ((Bool×Unit)×Unit) | 0=>(fun x1_0 x1_1 x1_2 x1_3 x1_4=>none) | m+1=>(fun x1_0 x1_1 x1_2 x1_3 x1_4=>spec_l19Places_b1 D n (spec_l19Places_L1 D n K0 K1 m) K0 K1 x1_0 x1_1 x1_2 x1_3 x1_4)
def spec_l19Places_x1_0 (D:DX)(n:Nat) (go:List Int→Int→Int→tSch→Option ((Bool×Unit)×Unit)) (K0:List Int→Int→Bool→Option ((Bool×Unit)×Unit)) (K1:List Int→Int→Option ((Bool×Unit)×Unit)) (v0_0:List Int) (v0_1:Int) (v0_2:Bool) (v0_3:Int) (v0_4:tSch):Option ((Bool×Unit)×Unit):=K0 v0_0 v0_1 v0_2
def spec_l19Places_x1_1 (D:DX)(n:Nat) (go:List Int→Int→Int→tSch→Option ((Bool×Unit)×Unit)) (K0:List Int→Int→Bool→Option ((Bool×Unit)×Unit)) (K1:List Int→Int→Option ((Bool×Unit)×Unit)) (v1_0:List Int) (v1_1:Int) (v1_2:Int) (v1_3:tSch):Option ((Bool×Unit)×Unit):=go v1_0 v1_1 (IntKind.wrap IntKind.i64 (v1_2+1)) v1_3
def spec_l19Places_LP1 (D:DX)(n:Nat) (go:List Int→Int→Int→tSch→Option ((Bool×Unit)×Unit)) (K0:List Int→Int→Bool→Option ((Bool×Unit)×Unit)) (K1:List Int→Int→Option ((Bool×Unit)×Unit)):(List Int)→(Int)→(Int)→(Int)→(tSch)→Option ((Bool×Unit)×Unit):=(fun x1_0 x1_1 x1_2 x1_3 x1_4=>spec_l19Places_L1 D n (fun v0_0 v0_1 v0_2 v0_3 v0_4=>spec_l19Places_x1_0 D n go K0 K1 v0_0 v0_1 v0_2 v0_3 v0_4) (fun v1_0 v1_1 v1_2 v1_3=>spec_l19Places_x1_1 D n go K0 K1 v1_0 v1_1 v1_2 v1_3) n x1_0 x1_1 x1_2 x1_3 x1_4)
def spec_l19Places_b0 (D:DX)(n:Nat) (go:List Int→Int→Int→tSch→Option ((Bool×Unit)×Unit)) (K0:List Int→Int→Bool→Option ((Bool×Unit)×Unit)) (K1:List Int→Int→Option ((Bool×Unit)×Unit)) (lp1:List Int→Int→Int→Int→tSch→Option ((Bool×Unit)×Unit)) (x0:List Int) (x1:Int) (x2:Int) (x3:tSch):Option ((Bool×Unit)×Unit):=br (decide (x2<(↑(List.length x0):Int))) (br (decide (0≤x2)&&decide (x2<(↑(List.length x0):Int))) (bindD (C_spec_l1In D (List.getD x0 (Int.toNat x2) 0) 0 (IntKind.wrap IntKind.i64 ((↑(List.length (Prod.fst x3)):Int) - 1))) fun b↦br (!Prod.fst (Prod.fst b)) (K0 x0 x1 false) (lp1 x0 x1 x2 0 x3)) none) (K1 x0 x1)
def spec_l19Places_L0 (D:DX)(n:Nat) (K0:List Int→Int→Bool→Option ((Bool×Unit)×Unit)) (K1:List Int→Int→Option ((Bool×Unit)×Unit)):Nat→(List Int)→(Int)→(Int)→(tSch)→Option ((Bool×Unit)×Unit) | 0=>(fun x0 x1 x2 x3=>none) | m+1=>(fun x0 x1 x2 x3=>spec_l19Places_b0 D n (spec_l19Places_L0 D n K0 K1 m) K0 K1 (spec_l19Places_LP1 D n (spec_l19Places_L0 D n K0 K1 m) K0 K1) x0 x1 x2 x3)
def spec_l19Places_x0_0 (D:DX)(n:Nat) (v0_0:List Int) (v0_1:Int) (v0_2:Bool):Option ((Bool×Unit)×Unit):=some ((v0_2,()),())
def spec_l19Places_x0_1 (D:DX)(n:Nat) (v1_0:List Int) (v1_1:Int):Option ((Bool×Unit)×Unit):=bindD (C_spec_l1In D (↑(List.length v1_0):Int) 1 v1_1) fun b↦some ((Prod.fst (Prod.fst b),()),())
def spec_l19Places_LP0 (D:DX)(n:Nat):(List Int)→(Int)→(Int)→(tSch)→Option ((Bool×Unit)×Unit):=(fun x0 x1 x2 x3=>spec_l19Places_L0 D n (fun v0_0 v0_1 v0_2=>spec_l19Places_x0_0 D n v0_0 v0_1 v0_2) (fun v1_0 v1_1=>spec_l19Places_x0_1 D n v1_0 v1_1) n x0 x1 x2 x3)
def spec_l19Places_e (D:DX)(n:Nat) (lp0:List Int→Int→Int→tSch→Option ((Bool×Unit)×Unit)) (a0:tSch) (a1:List Int) (a2:Int):Option ((Bool×Unit)×Unit):=lp0 a1 a2 0 a0
def F_spec_l19Places (D:DX)(n:Nat) (a0:tSch) (a1:List Int) (a2:Int):Option ((Bool×Unit)×Unit):=spec_l19Places_e D n (spec_l19Places_LP0 D n) a0 a1 a2
def spec_l19Places_Q0 (x0:List Int) (x1:Int) (x2:Int) (x3:tSch):St:=stq 43 [(1,AV.val (Ty.sl yI) x0),(2,avI x1),(3,AV.addr 3 []),(7,avI x2)] [(3,Root.mk yS Mk.no x3 true)] 
def spec_l19Places_Q0_0 (v0_0:List Int) (v0_1:Int) (v0_2:Bool):St:=stq 43 [(1,AV.val (Ty.sl yI) v0_0),(2,avI v0_1),(6,AV.val Ty.bool v0_2)] [] 
def spec_l19Places_Q0_1 (v1_0:List Int) (v1_1:Int):St:=stq 43 [(1,AV.val (Ty.sl yI) v1_0),(2,avI v1_1)] [] 
def spec_l19Places_Q1 (x1_0:List Int) (x1_1:Int) (x1_2:Int) (x1_3:Int) (x1_4:tSch):St:=stq 43 [(1,AV.val (Ty.sl yI) x1_0),(2,avI x1_1),(3,AV.addr 3 []),(7,avI x1_2),(8,avI x1_3)] [(3,Root.mk yS Mk.no x1_4 true)] 
def spec_l19Places_Q1_0 (v0_0:List Int) (v0_1:Int) (v0_2:Bool) (v0_3:Int) (v0_4:tSch):St:=stq 43 [(1,AV.val (Ty.sl yI) v0_0),(2,avI v0_1),(3,AV.addr 3 []),(6,AV.val Ty.bool v0_2),(7,avI v0_3)] [(3,Root.mk yS Mk.no v0_4 true)] 
def spec_l19Places_Q1_1 (v1_0:List Int) (v1_1:Int) (v1_2:Int) (v1_3:tSch):St:=stq 43 [(1,AV.val (Ty.sl yI) v1_0),(2,avI v1_1),(3,AV.addr 3 []),(7,avI v1_2)] [(3,Root.mk yS Mk.no v1_3 true)] 
theorem spec_l19Places_SB1 (D:DX)(n:Nat) (m:Nat) (K:Ex→St→Option (Out ctx 74)) (x1_0:List Int) (x1_1:Int) (x1_2:Int) (x1_3:Int) (x1_4:tSch) :
  LQ funcTab D n 74 [.r,.l,.r,.l,.l,.r,.l,.l,.r,.r,.l] (m+1) (spec_l19Places_Q1 x1_0 x1_1 x1_2 x1_3 x1_4) K=spec_l19Places_b1 D n (fun x1_0 x1_1 x1_2 x1_3 x1_4=>LQ funcTab D n 74 [.r,.l,.r,.l,.l,.r,.l,.l,.r,.r,.l] m (spec_l19Places_Q1 x1_0 x1_1 x1_2 x1_3 x1_4) K) (fun v0_0 v0_1 v0_2 v0_3 v0_4=>K (Ex.ret) (spec_l19Places_Q1_0 v0_0 v0_1 v0_2 v0_3 v0_4)) (fun v1_0 v1_1 v1_2 v1_3=>K (Ex.exit 2) (spec_l19Places_Q1_1 v1_0 v1_1 v1_2 v1_3)) x1_0 x1_1 x1_2 x1_3 x1_4:=by kernel_rfl
theorem spec_l19Places_EL1 (D:DX)(n:Nat) (K:Ex→St→Option (Out ctx 74)):∀ (m:Nat) (x1_0:List Int) (x1_1:Int) (x1_2:Int) (x1_3:Int) (x1_4:tSch),LQ funcTab D n 74 [.r,.l,.r,.l,.l,.r,.l,.l,.r,.r,.l] m (spec_l19Places_Q1 x1_0 x1_1 x1_2 x1_3 x1_4) K=spec_l19Places_L1 D n (fun v0_0 v0_1 v0_2 v0_3 v0_4=>K (Ex.ret) (spec_l19Places_Q1_0 v0_0 v0_1 v0_2 v0_3 v0_4)) (fun v1_0 v1_1 v1_2 v1_3=>K (Ex.exit 2) (spec_l19Places_Q1_1 v1_0 v1_1 v1_2 v1_3)) m x1_0 x1_1 x1_2 x1_3 x1_4
  | 0,x1_0,x1_1,x1_2,x1_3,x1_4=>LQ_zero ..
  | m+1,x1_0,x1_1,x1_2,x1_3,x1_4=>by
    have ih:(fun x1_0 x1_1 x1_2 x1_3 x1_4=>LQ funcTab D n 74 [.r,.l,.r,.l,.l,.r,.l,.l,.r,.r,.l] m (spec_l19Places_Q1 x1_0 x1_1 x1_2 x1_3 x1_4) K)=spec_l19Places_L1 D n (fun v0_0 v0_1 v0_2 v0_3 v0_4=>K (Ex.ret) (spec_l19Places_Q1_0 v0_0 v0_1 v0_2 v0_3 v0_4)) (fun v1_0 v1_1 v1_2 v1_3=>K (Ex.exit 2) (spec_l19Places_Q1_1 v1_0 v1_1 v1_2 v1_3)) m:=by funext x1_0 x1_1 x1_2 x1_3 x1_4;exact spec_l19Places_EL1 D n K m x1_0 x1_1 x1_2 x1_3 x1_4
    rw[spec_l19Places_SB1]
    rw[ih];rfl
theorem spec_l19Places_X1_0 (D:DX)(n:Nat) (m:Nat) (K:Ex→St→Option (Out ctx 74)) (v0_0:List Int) (v0_1:Int) (v0_2:Bool) (v0_3:Int) (v0_4:tSch) :
  (CQ funcTab D n 74 [.r,.l,.r,.l,.l] [.r,.l,.l,.r,.r,.l] (LK funcTab D n 74 [.r,.l,.r,.l] m K)) (Ex.ret) (spec_l19Places_Q1_0 v0_0 v0_1 v0_2 v0_3 v0_4)=spec_l19Places_x1_0 D n (fun x0 x1 x2 x3=>LQ funcTab D n 74 [.r,.l,.r,.l] m (spec_l19Places_Q0 x0 x1 x2 x3) K) (fun v0_0 v0_1 v0_2=>K (Ex.ret) (spec_l19Places_Q0_0 v0_0 v0_1 v0_2)) (fun v1_0 v1_1=>K (Ex.exit 0) (spec_l19Places_Q0_1 v1_0 v1_1)) v0_0 v0_1 v0_2 v0_3 v0_4:=by kernel_rfl
theorem spec_l19Places_X1_1 (D:DX)(n:Nat) (m:Nat) (K:Ex→St→Option (Out ctx 74)) (v1_0:List Int) (v1_1:Int) (v1_2:Int) (v1_3:tSch) :
  (CQ funcTab D n 74 [.r,.l,.r,.l,.l] [.r,.l,.l,.r,.r,.l] (LK funcTab D n 74 [.r,.l,.r,.l] m K)) (Ex.exit 2) (spec_l19Places_Q1_1 v1_0 v1_1 v1_2 v1_3)=spec_l19Places_x1_1 D n (fun x0 x1 x2 x3=>LQ funcTab D n 74 [.r,.l,.r,.l] m (spec_l19Places_Q0 x0 x1 x2 x3) K) (fun v0_0 v0_1 v0_2=>K (Ex.ret) (spec_l19Places_Q0_0 v0_0 v0_1 v0_2)) (fun v1_0 v1_1=>K (Ex.exit 0) (spec_l19Places_Q0_1 v1_0 v1_1)) v1_0 v1_1 v1_2 v1_3:=by kernel_rfl
theorem spec_l19Places_ELP1 (D:DX)(n:Nat) (m:Nat) (K:Ex→St→Option (Out ctx 74)) (x1_0:List Int) (x1_1:Int) (x1_2:Int) (x1_3:Int) (x1_4:tSch) :
  LQ funcTab D n 74 [.r,.l,.r,.l,.l,.r,.l,.l,.r,.r,.l] n (spec_l19Places_Q1 x1_0 x1_1 x1_2 x1_3 x1_4) (CQ funcTab D n 74 [.r,.l,.r,.l,.l] [.r,.l,.l,.r,.r,.l] (LK funcTab D n 74 [.r,.l,.r,.l] m K))=spec_l19Places_LP1 D n (fun x0 x1 x2 x3=>LQ funcTab D n 74 [.r,.l,.r,.l] m (spec_l19Places_Q0 x0 x1 x2 x3) K) (fun v0_0 v0_1 v0_2=>K (Ex.ret) (spec_l19Places_Q0_0 v0_0 v0_1 v0_2)) (fun v1_0 v1_1=>K (Ex.exit 0) (spec_l19Places_Q0_1 v1_0 v1_1)) x1_0 x1_1 x1_2 x1_3 x1_4:=by
  rw[spec_l19Places_EL1]
  simp only[spec_l19Places_X1_0,spec_l19Places_X1_1]
  rfl
theorem spec_l19Places_SB0 (D:DX)(n:Nat) (m:Nat) (K:Ex→St→Option (Out ctx 74)) (x0:List Int) (x1:Int) (x2:Int) (x3:tSch) :
  LQ funcTab D n 74 [.r,.l,.r,.l] (m+1) (spec_l19Places_Q0 x0 x1 x2 x3) K=spec_l19Places_b0 D n (fun x0 x1 x2 x3=>LQ funcTab D n 74 [.r,.l,.r,.l] m (spec_l19Places_Q0 x0 x1 x2 x3) K) (fun v0_0 v0_1 v0_2=>K (Ex.ret) (spec_l19Places_Q0_0 v0_0 v0_1 v0_2)) (fun v1_0 v1_1=>K (Ex.exit 0) (spec_l19Places_Q0_1 v1_0 v1_1)) (fun x1_0 x1_1 x1_2 x1_3 x1_4=>LQ funcTab D n 74 [.r,.l,.r,.l,.l,.r,.l,.l,.r,.r,.l] n (spec_l19Places_Q1 x1_0 x1_1 x1_2 x1_3 x1_4) (CQ funcTab D n 74 [.r,.l,.r,.l,.l] [.r,.l,.l,.r,.r,.l] (LK funcTab D n 74 [.r,.l,.r,.l] m K))) x0 x1 x2 x3:=by kernel_rfl
theorem spec_l19Places_EL0 (D:DX)(n:Nat) (K:Ex→St→Option (Out ctx 74)):∀ (m:Nat) (x0:List Int) (x1:Int) (x2:Int) (x3:tSch),LQ funcTab D n 74 [.r,.l,.r,.l] m (spec_l19Places_Q0 x0 x1 x2 x3) K=spec_l19Places_L0 D n (fun v0_0 v0_1 v0_2=>K (Ex.ret) (spec_l19Places_Q0_0 v0_0 v0_1 v0_2)) (fun v1_0 v1_1=>K (Ex.exit 0) (spec_l19Places_Q0_1 v1_0 v1_1)) m x0 x1 x2 x3
  | 0,x0,x1,x2,x3=>LQ_zero ..
  | m+1,x0,x1,x2,x3=>by
    have ih:(fun x0 x1 x2 x3=>LQ funcTab D n 74 [.r,.l,.r,.l] m (spec_l19Places_Q0 x0 x1 x2 x3) K)=spec_l19Places_L0 D n (fun v0_0 v0_1 v0_2=>K (Ex.ret) (spec_l19Places_Q0_0 v0_0 v0_1 v0_2)) (fun v1_0 v1_1=>K (Ex.exit 0) (spec_l19Places_Q0_1 v1_0 v1_1)) m:=by funext x0 x1 x2 x3;exact spec_l19Places_EL0 D n K m x0 x1 x2 x3
    rw[spec_l19Places_SB0]
    simp only[spec_l19Places_ELP1]
    rw[ih];rfl
theorem spec_l19Places_X0_0 (D:DX)(n:Nat) (v0_0:List Int) (v0_1:Int) (v0_2:Bool) :
  (CQ funcTab D n 74 [] [.r,.l,.r,.l] (lastK funcTab 74)) (Ex.ret) (spec_l19Places_Q0_0 v0_0 v0_1 v0_2)=spec_l19Places_x0_0 D n v0_0 v0_1 v0_2:=by kernel_rfl
theorem spec_l19Places_X0_1 (D:DX)(n:Nat) (v1_0:List Int) (v1_1:Int) :
  (CQ funcTab D n 74 [] [.r,.l,.r,.l] (lastK funcTab 74)) (Ex.exit 0) (spec_l19Places_Q0_1 v1_0 v1_1)=spec_l19Places_x0_1 D n v1_0 v1_1:=by kernel_rfl
theorem spec_l19Places_ELP0 (D:DX)(n:Nat) (x0:List Int) (x1:Int) (x2:Int) (x3:tSch) :
  LQ funcTab D n 74 [.r,.l,.r,.l] n (spec_l19Places_Q0 x0 x1 x2 x3) (CQ funcTab D n 74 [] [.r,.l,.r,.l] (lastK funcTab 74))=spec_l19Places_LP0 D n x0 x1 x2 x3:=by
  rw[spec_l19Places_EL0]
  simp only[spec_l19Places_X0_0,spec_l19Places_X0_1]
  rfl
theorem E_spec_l19Places (D:DX)(n:Nat) (a0:tSch) (a1:List Int) (a2:Int):rfC funcTab D n 74 (a0,(a1,(a2,())))=F_spec_l19Places D n a0 a1 a2:=by
  have h:rfC funcTab D n 74 (a0,(a1,(a2,())))=spec_l19Places_e D n (fun x0 x1 x2 x3=>LQ funcTab D n 74 [.r,.l,.r,.l] n (spec_l19Places_Q0 x0 x1 x2 x3) (CQ funcTab D n 74 [] [.r,.l,.r,.l] (lastK funcTab 74))) a0 a1 a2:=by kernel_rfl
  rw[h]
  simp only[spec_l19Places_ELP0]
  rfl

def spec_l19Indexes_b1 (D:DX)(n:Nat) (go:Int→Int→tSch→ByteArray×List Int×Bool×Unit→Option ((Bool×Unit)×Unit)) (K0:Bool→Int→tSch→Option ((Bool×Unit)×Unit)) (K1:Int→tSch→Option ((Bool×Unit)×Unit)) (x1_0:Int) (x1_1:Int) (x1_2:tSch) (x1_3:ByteArray×List Int×Bool×Unit):Option ((Bool×Unit)×Unit):=br (decide (x1_1<x1_0)) (br (decide (0≤x1_1)&&decide (x1_1<(↑(List.length (Prod.fst (Prod.snd (Prod.snd x1_2)))):Int))) (br (List.beq (ByteArray.toList (Prod.fst (List.getD (Prod.fst (Prod.snd (Prod.snd x1_2))) (Int.toNat x1_1) (ByteArray.empty,[],false,())))) (ByteArray.toList (Prod.fst x1_3))) (K0 false x1_0 x1_2) (go x1_0 (IntKind.wrap IntKind.i64 (x1_1+1)) x1_2 x1_3)) none) (K1 x1_0 x1_2)
def spec_l19Indexes_L1 (D:DX)(n:Nat) (K0:Bool→Int→tSch→Option ((Bool×Unit)×Unit)) (K1:Int→tSch→Option ((Bool×Unit)×Unit)):Nat→(Int)→(Int)→(tSch)→tIx→Option ((Bool×Unit)×Unit) | 0=>(fun x1_0 x1_1 x1_2 x1_3=>none) | m+1=>(fun x1_0 x1_1 x1_2 x1_3=>spec_l19Indexes_b1 D n (spec_l19Indexes_L1 D n K0 K1 m) K0 K1 x1_0 x1_1 x1_2 x1_3)
def spec_l19Indexes_x1_0 (D:DX)(n:Nat) (go:Int→tSch→Option ((Bool×Unit)×Unit)) (K0:Bool→tSch→Option ((Bool×Unit)×Unit)) (K1:tSch→Option ((Bool×Unit)×Unit)) (v0_0:Bool) (v0_1:Int) (v0_2:tSch):Option ((Bool×Unit)×Unit):=K0 v0_0 v0_2
def spec_l19Indexes_x1_1 (D:DX)(n:Nat) (go:Int→tSch→Option ((Bool×Unit)×Unit)) (K0:Bool→tSch→Option ((Bool×Unit)×Unit)) (K1:tSch→Option ((Bool×Unit)×Unit)) (v1_0:Int) (v1_1:tSch):Option ((Bool×Unit)×Unit):=go (IntKind.wrap IntKind.i64 (v1_0+1)) v1_1
def spec_l19Indexes_LP1 (D:DX)(n:Nat) (go:Int→tSch→Option ((Bool×Unit)×Unit)) (K0:Bool→tSch→Option ((Bool×Unit)×Unit)) (K1:tSch→Option ((Bool×Unit)×Unit)):(Int)→(Int)→(tSch)→tIx→Option ((Bool×Unit)×Unit):=(fun x1_0 x1_1 x1_2 x1_3=>spec_l19Indexes_L1 D n (fun v0_0 v0_1 v0_2=>spec_l19Indexes_x1_0 D n go K0 K1 v0_0 v0_1 v0_2) (fun v1_0 v1_1=>spec_l19Indexes_x1_1 D n go K0 K1 v1_0 v1_1) n x1_0 x1_1 x1_2 x1_3)
def spec_l19Indexes_b0 (D:DX)(n:Nat) (go:Int→tSch→Option ((Bool×Unit)×Unit)) (K0:Bool→tSch→Option ((Bool×Unit)×Unit)) (K1:tSch→Option ((Bool×Unit)×Unit)) (lp1:Int→Int→tSch→ByteArray×List Int×Bool×Unit→Option ((Bool×Unit)×Unit)) (x0:Int) (x1:tSch):Option ((Bool×Unit)×Unit):=br (decide (x0<(↑(List.length (Prod.fst (Prod.snd (Prod.snd x1)))):Int))) (br (decide (0≤x0)&&decide (x0<(↑(List.length (Prod.fst (Prod.snd (Prod.snd x1)))):Int))) (bindD (C_spec_ColNameOk D (Prod.fst (List.getD (Prod.fst (Prod.snd (Prod.snd x1))) (Int.toNat x0) (ByteArray.empty,[],false,())))) fun b↦br (!Prod.fst (Prod.fst b)) (K0 false x1) (bindD (C_spec_l19Places D x1 (Prod.fst (Prod.snd (List.getD (Prod.fst (Prod.snd (Prod.snd x1))) (Int.toNat x0) (ByteArray.empty,[],false,())))) 3) fun b↦br (!Prod.fst (Prod.fst b)) (K0 false x1) (lp1 x0 0 x1 (List.getD (Prod.fst (Prod.snd (Prod.snd x1))) (Int.toNat x0) (ByteArray.empty,[],false,()))))) none) (K1 x1)
def spec_l19Indexes_L0 (D:DX)(n:Nat) (K0:Bool→tSch→Option ((Bool×Unit)×Unit)) (K1:tSch→Option ((Bool×Unit)×Unit)):Nat→(Int)→(tSch)→Option ((Bool×Unit)×Unit) | 0=>(fun x0 x1=>none) | m+1=>(fun x0 x1=>spec_l19Indexes_b0 D n (spec_l19Indexes_L0 D n K0 K1 m) K0 K1 (spec_l19Indexes_LP1 D n (spec_l19Indexes_L0 D n K0 K1 m) K0 K1) x0 x1)
def spec_l19Indexes_x0_0 (D:DX)(n:Nat) (v0_0:Bool) (v0_1:tSch):Option ((Bool×Unit)×Unit):=some ((v0_0,()),())
def spec_l19Indexes_x0_1 (D:DX)(n:Nat) (v1_0:tSch):Option ((Bool×Unit)×Unit):=some ((decide ((↑(List.length (Prod.fst (Prod.snd (Prod.snd v1_0)))):Int)≤3),()),())
def spec_l19Indexes_LP0 (D:DX)(n:Nat):(Int)→(tSch)→Option ((Bool×Unit)×Unit):=(fun x0 x1=>spec_l19Indexes_L0 D n (fun v0_0 v0_1=>spec_l19Indexes_x0_0 D n v0_0 v0_1) (fun v1_0=>spec_l19Indexes_x0_1 D n v1_0) n x0 x1)
def spec_l19Indexes_e (D:DX)(n:Nat) (lp0:Int→tSch→Option ((Bool×Unit)×Unit)) (a0:tSch):Option ((Bool×Unit)×Unit):=lp0 0 a0
def F_spec_l19Indexes (D:DX)(n:Nat) (a0:tSch):Option ((Bool×Unit)×Unit):=spec_l19Indexes_e D n (spec_l19Indexes_LP0 D n) a0
def spec_l19Indexes_Q0 (x0:Int) (x1:tSch):St:=stq 47 [(1,AV.addr 1 []),(3,avI x0)] [(1,Root.mk yS Mk.no x1 true)] 
def spec_l19Indexes_Q0_0 (v0_0:Bool) (v0_1:tSch):St:=stq 47 [(1,AV.addr 1 []),(2,AV.val Ty.bool v0_0)] [(1,Root.mk yS Mk.no v0_1 true)] 
def spec_l19Indexes_Q0_1 (v1_0:tSch):St:=stq 47 [(1,AV.addr 1 [])] [(1,Root.mk yS Mk.no v1_0 true)] 
def spec_l19Indexes_Q1 (x1_0:Int) (x1_1:Int) (x1_2:tSch) (x1_3:ByteArray×List Int×Bool×Unit):St:=stq 47 [(1,AV.addr 1 []),(3,avI x1_0),(4,AV.addr 4 []),(5,avI x1_1)] [(1,Root.mk yS Mk.no x1_2 true),(4,Root.mk yX Mk.no x1_3 true)] 
def spec_l19Indexes_Q1_0 (v0_0:Bool) (v0_1:Int) (v0_2:tSch):St:=stq 47 [(1,AV.addr 1 []),(2,AV.val Ty.bool v0_0),(3,avI v0_1)] [(1,Root.mk yS Mk.no v0_2 true)] 
def spec_l19Indexes_Q1_1 (v1_0:Int) (v1_1:tSch):St:=stq 47 [(1,AV.addr 1 []),(3,avI v1_0)] [(1,Root.mk yS Mk.no v1_1 true)] 
theorem spec_l19Indexes_SB1 (D:DX)(n:Nat) (m:Nat) (K:Ex→St→Option (Out ctx 75)) (x1_0:Int) (x1_1:Int) (x1_2:tSch) (x1_3:ByteArray×List Int×Bool×Unit) :
  LQ funcTab D n 75 [.r,.l,.r,.l,.l,.r,.l,.l,.r,.r,.r,.l] (m+1) (spec_l19Indexes_Q1 x1_0 x1_1 x1_2 x1_3) K=spec_l19Indexes_b1 D n (fun x1_0 x1_1 x1_2 x1_3=>LQ funcTab D n 75 [.r,.l,.r,.l,.l,.r,.l,.l,.r,.r,.r,.l] m (spec_l19Indexes_Q1 x1_0 x1_1 x1_2 x1_3) K) (fun v0_0 v0_1 v0_2=>K (Ex.ret) (spec_l19Indexes_Q1_0 v0_0 v0_1 v0_2)) (fun v1_0 v1_1=>K (Ex.exit 2) (spec_l19Indexes_Q1_1 v1_0 v1_1)) x1_0 x1_1 x1_2 x1_3:=by kernel_rfl
theorem spec_l19Indexes_EL1 (D:DX)(n:Nat) (K:Ex→St→Option (Out ctx 75)):∀ (m:Nat) (x1_0:Int) (x1_1:Int) (x1_2:tSch) (x1_3:ByteArray×List Int×Bool×Unit),LQ funcTab D n 75 [.r,.l,.r,.l,.l,.r,.l,.l,.r,.r,.r,.l] m (spec_l19Indexes_Q1 x1_0 x1_1 x1_2 x1_3) K=spec_l19Indexes_L1 D n (fun v0_0 v0_1 v0_2=>K (Ex.ret) (spec_l19Indexes_Q1_0 v0_0 v0_1 v0_2)) (fun v1_0 v1_1=>K (Ex.exit 2) (spec_l19Indexes_Q1_1 v1_0 v1_1)) m x1_0 x1_1 x1_2 x1_3
  | 0,x1_0,x1_1,x1_2,x1_3=>LQ_zero ..
  | m+1,x1_0,x1_1,x1_2,x1_3=>by
    have ih:(fun x1_0 x1_1 x1_2 x1_3=>LQ funcTab D n 75 [.r,.l,.r,.l,.l,.r,.l,.l,.r,.r,.r,.l] m (spec_l19Indexes_Q1 x1_0 x1_1 x1_2 x1_3) K)=spec_l19Indexes_L1 D n (fun v0_0 v0_1 v0_2=>K (Ex.ret) (spec_l19Indexes_Q1_0 v0_0 v0_1 v0_2)) (fun v1_0 v1_1=>K (Ex.exit 2) (spec_l19Indexes_Q1_1 v1_0 v1_1)) m:=by funext x1_0 x1_1 x1_2 x1_3;exact spec_l19Indexes_EL1 D n K m x1_0 x1_1 x1_2 x1_3
    rw[spec_l19Indexes_SB1]
    rw[ih];rfl
theorem spec_l19Indexes_X1_0 (D:DX)(n:Nat) (m:Nat) (K:Ex→St→Option (Out ctx 75)) (v0_0:Bool) (v0_1:Int) (v0_2:tSch) :
  (CQ funcTab D n 75 [.r,.l,.r,.l,.l] [.r,.l,.l,.r,.r,.r,.l] (LK funcTab D n 75 [.r,.l,.r,.l] m K)) (Ex.ret) (spec_l19Indexes_Q1_0 v0_0 v0_1 v0_2)=spec_l19Indexes_x1_0 D n (fun x0 x1=>LQ funcTab D n 75 [.r,.l,.r,.l] m (spec_l19Indexes_Q0 x0 x1) K) (fun v0_0 v0_1=>K (Ex.ret) (spec_l19Indexes_Q0_0 v0_0 v0_1)) (fun v1_0=>K (Ex.exit 0) (spec_l19Indexes_Q0_1 v1_0)) v0_0 v0_1 v0_2:=by kernel_rfl
theorem spec_l19Indexes_X1_1 (D:DX)(n:Nat) (m:Nat) (K:Ex→St→Option (Out ctx 75)) (v1_0:Int) (v1_1:tSch) :
  (CQ funcTab D n 75 [.r,.l,.r,.l,.l] [.r,.l,.l,.r,.r,.r,.l] (LK funcTab D n 75 [.r,.l,.r,.l] m K)) (Ex.exit 2) (spec_l19Indexes_Q1_1 v1_0 v1_1)=spec_l19Indexes_x1_1 D n (fun x0 x1=>LQ funcTab D n 75 [.r,.l,.r,.l] m (spec_l19Indexes_Q0 x0 x1) K) (fun v0_0 v0_1=>K (Ex.ret) (spec_l19Indexes_Q0_0 v0_0 v0_1)) (fun v1_0=>K (Ex.exit 0) (spec_l19Indexes_Q0_1 v1_0)) v1_0 v1_1:=by kernel_rfl
theorem spec_l19Indexes_ELP1 (D:DX)(n:Nat) (m:Nat) (K:Ex→St→Option (Out ctx 75)) (x1_0:Int) (x1_1:Int) (x1_2:tSch) (x1_3:ByteArray×List Int×Bool×Unit) :
  LQ funcTab D n 75 [.r,.l,.r,.l,.l,.r,.l,.l,.r,.r,.r,.l] n (spec_l19Indexes_Q1 x1_0 x1_1 x1_2 x1_3) (CQ funcTab D n 75 [.r,.l,.r,.l,.l] [.r,.l,.l,.r,.r,.r,.l] (LK funcTab D n 75 [.r,.l,.r,.l] m K))=spec_l19Indexes_LP1 D n (fun x0 x1=>LQ funcTab D n 75 [.r,.l,.r,.l] m (spec_l19Indexes_Q0 x0 x1) K) (fun v0_0 v0_1=>K (Ex.ret) (spec_l19Indexes_Q0_0 v0_0 v0_1)) (fun v1_0=>K (Ex.exit 0) (spec_l19Indexes_Q0_1 v1_0)) x1_0 x1_1 x1_2 x1_3:=by
  rw[spec_l19Indexes_EL1]
  simp only[spec_l19Indexes_X1_0,spec_l19Indexes_X1_1]
  rfl
theorem spec_l19Indexes_SB0 (D:DX)(n:Nat) (m:Nat) (K:Ex→St→Option (Out ctx 75)) (x0:Int) (x1:tSch) :
  LQ funcTab D n 75 [.r,.l,.r,.l] (m+1) (spec_l19Indexes_Q0 x0 x1) K=spec_l19Indexes_b0 D n (fun x0 x1=>LQ funcTab D n 75 [.r,.l,.r,.l] m (spec_l19Indexes_Q0 x0 x1) K) (fun v0_0 v0_1=>K (Ex.ret) (spec_l19Indexes_Q0_0 v0_0 v0_1)) (fun v1_0=>K (Ex.exit 0) (spec_l19Indexes_Q0_1 v1_0)) (fun x1_0 x1_1 x1_2 x1_3=>LQ funcTab D n 75 [.r,.l,.r,.l,.l,.r,.l,.l,.r,.r,.r,.l] n (spec_l19Indexes_Q1 x1_0 x1_1 x1_2 x1_3) (CQ funcTab D n 75 [.r,.l,.r,.l,.l] [.r,.l,.l,.r,.r,.r,.l] (LK funcTab D n 75 [.r,.l,.r,.l] m K))) x0 x1:=by kernel_rfl
theorem spec_l19Indexes_EL0 (D:DX)(n:Nat) (K:Ex→St→Option (Out ctx 75)):∀ (m:Nat) (x0:Int) (x1:tSch),LQ funcTab D n 75 [.r,.l,.r,.l] m (spec_l19Indexes_Q0 x0 x1) K=spec_l19Indexes_L0 D n (fun v0_0 v0_1=>K (Ex.ret) (spec_l19Indexes_Q0_0 v0_0 v0_1)) (fun v1_0=>K (Ex.exit 0) (spec_l19Indexes_Q0_1 v1_0)) m x0 x1
  | 0,x0,x1=>LQ_zero ..
  | m+1,x0,x1=>by
    have ih:(fun x0 x1=>LQ funcTab D n 75 [.r,.l,.r,.l] m (spec_l19Indexes_Q0 x0 x1) K)=spec_l19Indexes_L0 D n (fun v0_0 v0_1=>K (Ex.ret) (spec_l19Indexes_Q0_0 v0_0 v0_1)) (fun v1_0=>K (Ex.exit 0) (spec_l19Indexes_Q0_1 v1_0)) m:=by funext x0 x1;exact spec_l19Indexes_EL0 D n K m x0 x1
    rw[spec_l19Indexes_SB0]
    simp only[spec_l19Indexes_ELP1]
    rw[ih];rfl
theorem spec_l19Indexes_X0_0 (D:DX)(n:Nat) (v0_0:Bool) (v0_1:tSch) :
  (CQ funcTab D n 75 [] [.r,.l,.r,.l] (lastK funcTab 75)) (Ex.ret) (spec_l19Indexes_Q0_0 v0_0 v0_1)=spec_l19Indexes_x0_0 D n v0_0 v0_1:=by kernel_rfl
theorem spec_l19Indexes_X0_1 (D:DX)(n:Nat) (v1_0:tSch) :
  (CQ funcTab D n 75 [] [.r,.l,.r,.l] (lastK funcTab 75)) (Ex.exit 0) (spec_l19Indexes_Q0_1 v1_0)=spec_l19Indexes_x0_1 D n v1_0:=by kernel_rfl
theorem spec_l19Indexes_ELP0 (D:DX)(n:Nat) (x0:Int) (x1:tSch) :
  LQ funcTab D n 75 [.r,.l,.r,.l] n (spec_l19Indexes_Q0 x0 x1) (CQ funcTab D n 75 [] [.r,.l,.r,.l] (lastK funcTab 75))=spec_l19Indexes_LP0 D n x0 x1:=by
  rw[spec_l19Indexes_EL0]
  simp only[spec_l19Indexes_X0_0,spec_l19Indexes_X0_1]
  rfl
theorem E_spec_l19Indexes (D:DX)(n:Nat) (a0:tSch):rfC funcTab D n 75 (a0,())=F_spec_l19Indexes D n a0:=by
  have h:rfC funcTab D n 75 (a0,())=spec_l19Indexes_e D n (fun x0 x1=>LQ funcTab D n 75 [.r,.l,.r,.l] n (spec_l19Indexes_Q0 x0 x1) (CQ funcTab D n 75 [] [.r,.l,.r,.l] (lastK funcTab 75))) a0:=by kernel_rfl
  rw[h]
  simp only[spec_l19Indexes_ELP0]
  rfl




def impl_from_e (D:DX)(n:Nat) (a0:Int) (a1:Int) (a2:Int):Option ((Bool×Unit)×Unit):=some ((bif decide (a0≥a1) then decide (a0≤a2) else false,()),())
def F_impl_from (D:DX)(n:Nat) (a0:Int) (a1:Int) (a2:Int):Option ((Bool×Unit)×Unit):=impl_from_e D n a0 a1 a2
theorem E_impl_from (D:DX)(n:Nat) (a0:Int) (a1:Int) (a2:Int):rfC funcTab D n 79 (a0,(a1,(a2,())))=F_impl_from D n a0 a1 a2:=by kernel_rfl

def impl_placesOk_b0 (D:DX)(n:Nat) (go:List Int→Int→List Int→Int→Int→tSch→Option ((Bool×Unit)×Unit)) (K0:List Int→Int→Bool→Option ((Bool×Unit)×Unit)) (K1:List Int→Int→Option ((Bool×Unit)×Unit)) (x0:List Int) (x1:Int) (x2:List Int) (x3:Int) (x4:Int) (x5:tSch):Option ((Bool×Unit)×Unit):=br (decide (x4<x3)) (br (decide (0≤x4)&&decide (x4<(↑(List.length x2):Int))) (bindD (C_impl_from D (List.getD x2 (Int.toNat x4) 0) 0 (IntKind.wrap IntKind.i64 ((↑(List.length (Prod.fst x5)):Int) - 1))) fun b↦br (!Prod.fst (Prod.fst b)) (K0 x0 x1 false) (br (decide (0≤0)&&decide (0≤x4)&&decide (x4≤(↑(List.length x0):Int))) (bindD (C_slices_Contains_int_int D (List.drop (Int.toNat 0) (List.take (Int.toNat x4) x0)) (List.getD x2 (Int.toNat x4) 0)) fun b↦br (Prod.fst (Prod.fst b)) (K0 x0 x1 false) (go x0 x1 x2 x3 (IntKind.wrap IntKind.i64 (x4+1)) x5)) none)) none) (K1 x0 x1)
def impl_placesOk_L0 (D:DX)(n:Nat) (K0:List Int→Int→Bool→Option ((Bool×Unit)×Unit)) (K1:List Int→Int→Option ((Bool×Unit)×Unit)):Nat→(List Int)→(Int)→(List Int)→(Int)→(Int)→(tSch)→Option ((Bool×Unit)×Unit) | 0=>(fun x0 x1 x2 x3 x4 x5=>none) | m+1=>(fun x0 x1 x2 x3 x4 x5=>impl_placesOk_b0 D n (impl_placesOk_L0 D n K0 K1 m) K0 K1 x0 x1 x2 x3 x4 x5)
def impl_placesOk_x0_0 (D:DX)(n:Nat) (v0_0:List Int) (v0_1:Int) (v0_2:Bool):Option ((Bool×Unit)×Unit):=some ((v0_2,()),())
def impl_placesOk_x0_1 (D:DX)(n:Nat) (v1_0:List Int) (v1_1:Int):Option ((Bool×Unit)×Unit):=bindD (C_impl_from D (↑(List.length v1_0):Int) 1 v1_1) fun b↦some ((Prod.fst (Prod.fst b),()),())
def impl_placesOk_LP0 (D:DX)(n:Nat):(List Int)→(Int)→(List Int)→(Int)→(Int)→(tSch)→Option ((Bool×Unit)×Unit):=(fun x0 x1 x2 x3 x4 x5=>impl_placesOk_L0 D n (fun v0_0 v0_1 v0_2=>impl_placesOk_x0_0 D n v0_0 v0_1 v0_2) (fun v1_0 v1_1=>impl_placesOk_x0_1 D n v1_0 v1_1) n x0 x1 x2 x3 x4 x5)
def impl_placesOk_e (D:DX)(n:Nat) (lp0:List Int→Int→List Int→Int→Int→tSch→Option ((Bool×Unit)×Unit)) (a0:tSch) (a1:List Int) (a2:Int):Option ((Bool×Unit)×Unit):=lp0 a1 a2 a1 (↑(List.length a1):Int) 0 a0
def F_impl_placesOk (D:DX)(n:Nat) (a0:tSch) (a1:List Int) (a2:Int):Option ((Bool×Unit)×Unit):=impl_placesOk_e D n (impl_placesOk_LP0 D n) a0 a1 a2
def impl_placesOk_Q0 (x0:List Int) (x1:Int) (x2:List Int) (x3:Int) (x4:Int) (x5:tSch):St:=stq 35 [(1,AV.val (Ty.sl yI) x0),(2,avI x1),(3,AV.addr 3 []),(9,AV.val (Ty.sl yI) x2),(10,avI x3),(11,avI x4)] [(3,Root.mk yS Mk.no x5 true)] 
def impl_placesOk_Q0_0 (v0_0:List Int) (v0_1:Int) (v0_2:Bool):St:=stq 35 [(1,AV.val (Ty.sl yI) v0_0),(2,avI v0_1),(6,AV.val Ty.bool v0_2)] [] 
def impl_placesOk_Q0_1 (v1_0:List Int) (v1_1:Int):St:=stq 35 [(1,AV.val (Ty.sl yI) v1_0),(2,avI v1_1)] [] 
theorem impl_placesOk_SB0 (D:DX)(n:Nat) (m:Nat) (K:Ex→St→Option (Out ctx 80)) (x0:List Int) (x1:Int) (x2:List Int) (x3:Int) (x4:Int) (x5:tSch) :
  LQ funcTab D n 80 [.r,.l,.r,.l] (m+1) (impl_placesOk_Q0 x0 x1 x2 x3 x4 x5) K=impl_placesOk_b0 D n (fun x0 x1 x2 x3 x4 x5=>LQ funcTab D n 80 [.r,.l,.r,.l] m (impl_placesOk_Q0 x0 x1 x2 x3 x4 x5) K) (fun v0_0 v0_1 v0_2=>K (Ex.ret) (impl_placesOk_Q0_0 v0_0 v0_1 v0_2)) (fun v1_0 v1_1=>K (Ex.exit 0) (impl_placesOk_Q0_1 v1_0 v1_1)) x0 x1 x2 x3 x4 x5:=by kernel_rfl
theorem impl_placesOk_EL0 (D:DX)(n:Nat) (K:Ex→St→Option (Out ctx 80)):∀ (m:Nat) (x0:List Int) (x1:Int) (x2:List Int) (x3:Int) (x4:Int) (x5:tSch),LQ funcTab D n 80 [.r,.l,.r,.l] m (impl_placesOk_Q0 x0 x1 x2 x3 x4 x5) K=impl_placesOk_L0 D n (fun v0_0 v0_1 v0_2=>K (Ex.ret) (impl_placesOk_Q0_0 v0_0 v0_1 v0_2)) (fun v1_0 v1_1=>K (Ex.exit 0) (impl_placesOk_Q0_1 v1_0 v1_1)) m x0 x1 x2 x3 x4 x5
  | 0,x0,x1,x2,x3,x4,x5=>LQ_zero ..
  | m+1,x0,x1,x2,x3,x4,x5=>by
    have ih:(fun x0 x1 x2 x3 x4 x5=>LQ funcTab D n 80 [.r,.l,.r,.l] m (impl_placesOk_Q0 x0 x1 x2 x3 x4 x5) K)=impl_placesOk_L0 D n (fun v0_0 v0_1 v0_2=>K (Ex.ret) (impl_placesOk_Q0_0 v0_0 v0_1 v0_2)) (fun v1_0 v1_1=>K (Ex.exit 0) (impl_placesOk_Q0_1 v1_0 v1_1)) m:=by funext x0 x1 x2 x3 x4 x5;exact impl_placesOk_EL0 D n K m x0 x1 x2 x3 x4 x5
    rw[impl_placesOk_SB0]
    rw[ih];rfl
theorem impl_placesOk_X0_0 (D:DX)(n:Nat) (v0_0:List Int) (v0_1:Int) (v0_2:Bool) :
  (CQ funcTab D n 80 [] [.r,.l,.r,.l] (lastK funcTab 80)) (Ex.ret) (impl_placesOk_Q0_0 v0_0 v0_1 v0_2)=impl_placesOk_x0_0 D n v0_0 v0_1 v0_2:=by kernel_rfl
theorem impl_placesOk_X0_1 (D:DX)(n:Nat) (v1_0:List Int) (v1_1:Int) :
  (CQ funcTab D n 80 [] [.r,.l,.r,.l] (lastK funcTab 80)) (Ex.exit 0) (impl_placesOk_Q0_1 v1_0 v1_1)=impl_placesOk_x0_1 D n v1_0 v1_1:=by kernel_rfl
theorem impl_placesOk_ELP0 (D:DX)(n:Nat) (x0:List Int) (x1:Int) (x2:List Int) (x3:Int) (x4:Int) (x5:tSch) :
  LQ funcTab D n 80 [.r,.l,.r,.l] n (impl_placesOk_Q0 x0 x1 x2 x3 x4 x5) (CQ funcTab D n 80 [] [.r,.l,.r,.l] (lastK funcTab 80))=impl_placesOk_LP0 D n x0 x1 x2 x3 x4 x5:=by
  rw[impl_placesOk_EL0]
  simp only[impl_placesOk_X0_0,impl_placesOk_X0_1]
  rfl
theorem E_impl_placesOk (D:DX)(n:Nat) (a0:tSch) (a1:List Int) (a2:Int):rfC funcTab D n 80 (a0,(a1,(a2,())))=F_impl_placesOk D n a0 a1 a2:=by
  have h:rfC funcTab D n 80 (a0,(a1,(a2,())))=impl_placesOk_e D n (fun x0 x1 x2 x3 x4 x5=>LQ funcTab D n 80 [.r,.l,.r,.l] n (impl_placesOk_Q0 x0 x1 x2 x3 x4 x5) (CQ funcTab D n 80 [] [.r,.l,.r,.l] (lastK funcTab 80))) a0 a1 a2:=by kernel_rfl
  rw[h]
  simp only[impl_placesOk_ELP0]
  rfl

def slices_ContainsFunc_impl_Index_impl_Index_e (D:DX)(n:Nat) (a1:Clo) (a0:tIxs):Option ((Bool×Unit)×Unit):=bindD (C_slices_IndexFunc_impl_Index_impl_Index D a0 a1) fun b↦some ((decide (Prod.fst (Prod.fst b)≥0),()),())
def F_slices_ContainsFunc_impl_Index_impl_Index (D:DX)(n:Nat) (a0:tIxs) (a1:Clo):Option ((Bool×Unit)×Unit):=slices_ContainsFunc_impl_Index_impl_Index_e D n a1 a0
theorem E_slices_ContainsFunc_impl_Index_impl_Index (D:DX)(n:Nat) (a0:tIxs) (a1:Clo):rfC funcTab D n 81 (a0,(a1,()))=F_slices_ContainsFunc_impl_Index_impl_Index D n a0 a1:=by kernel_rfl

def impl_SchemaOk_1_e (D:DX)(n:Nat) (a0:ByteArray×List Int×Bool×Unit) (a1:ByteArray×List Int×Bool×Unit):Option ((Bool×Unit)×Unit):=some ((List.beq (ByteArray.toList (Prod.fst a0)) (ByteArray.toList (Prod.fst a1)),()),())
def F_impl_SchemaOk_1 (D:DX)(n:Nat) (a0:ByteArray×List Int×Bool×Unit) (a1:ByteArray×List Int×Bool×Unit):Option ((Bool×Unit)×Unit):=impl_SchemaOk_1_e D n a0 a1
theorem E_impl_SchemaOk_1 (D:DX)(n:Nat) (a0:ByteArray×List Int×Bool×Unit) (a1:ByteArray×List Int×Bool×Unit):rfC funcTab D n 82 (a0,(a1,()))=F_impl_SchemaOk_1 D n a0 a1:=by kernel_rfl

def slices_ContainsFunc_int_int_e (D:DX)(n:Nat) (a1:Clo) (a0:List Int):Option ((Bool×Unit)×Unit):=bindD (C_slices_IndexFunc_int_int D a0 a1) fun b↦some ((decide (Prod.fst (Prod.fst b)≥0),()),())
def F_slices_ContainsFunc_int_int (D:DX)(n:Nat) (a0:List Int) (a1:Clo):Option ((Bool×Unit)×Unit):=slices_ContainsFunc_int_int_e D n a1 a0
theorem E_slices_ContainsFunc_int_int (D:DX)(n:Nat) (a0:List Int) (a1:Clo):rfC funcTab D n 83 (a0,(a1,()))=F_slices_ContainsFunc_int_int D n a0 a1:=by kernel_rfl

def impl_SchemaOk_2_e (D:DX)(n:Nat) (a0:Int) (a1:tSch):Option ((Bool×Unit)×Unit):=br (decide (0≤a0)&&decide (a0<(↑(List.length (Prod.fst a1)):Int))) (some ((Prod.fst (Prod.snd (Prod.snd (List.getD (Prod.fst a1) (Int.toNat a0) (ByteArray.empty,0,false,())))),()),())) none
def F_impl_SchemaOk_2 (D:DX)(n:Nat) (a0:Int) (a1:tSch):Option ((Bool×Unit)×Unit):=impl_SchemaOk_2_e D n a0 a1
theorem E_impl_SchemaOk_2 (D:DX)(n:Nat) (a0:Int) (a1:tSch):rfC funcTab D n 84 (a0,(a1,()))=F_impl_SchemaOk_2 D n a0 a1:=by kernel_rfl




def spec_l1New_b0 (D:DX)(n:Nat) (go:List Int→Int→Int→Option ((tCur×Unit)×Unit)) (K0:List Int→Int→Option ((tCur×Unit)×Unit)) (x0:List Int) (x1:Int) (x2:Int):Option ((tCur×Unit)×Unit):=br (bif decide (x2<(↑(List.length x0):Int)) then decide (x2<4000) else false) (br (decide (0≤x2)&&decide (x2<(↑(List.length x0):Int))) (go x0 (IntKind.wrap IntKind.i64 (↑(BitVec.toNat (BitVec.and (BitVec.ofInt (IntKind.bits IntKind.i64) (IntKind.wrap IntKind.i64 (IntKind.wrap IntKind.i64 (IntKind.wrap IntKind.i64 (x1 * 131)+IntKind.wrap IntKind.i64 (List.getD x0 (Int.toNat x2) 0))+7))) (BitVec.ofInt (IntKind.bits IntKind.i64) 1073741823))):Int)) (IntKind.wrap IntKind.i64 (x2+1))) none) (K0 x0 x1)
def spec_l1New_L0 (D:DX)(n:Nat) (K0:List Int→Int→Option ((tCur×Unit)×Unit)):Nat→(List Int)→(Int)→(Int)→Option ((tCur×Unit)×Unit) | 0=>(fun x0 x1 x2=>none) | m+1=>(fun x0 x1 x2=>spec_l1New_b0 D n (spec_l1New_L0 D n K0 m) K0 x0 x1 x2)
def spec_l1New_x0_0 (D:DX)(n:Nat) (v0_0:List Int) (v0_1:Int):Option ((tCur×Unit)×Unit):=some (((v0_0,0,v0_1,()),()),())
def spec_l1New_LP0 (D:DX)(n:Nat):(List Int)→(Int)→(Int)→Option ((tCur×Unit)×Unit):=(fun x0 x1 x2=>spec_l1New_L0 D n (fun v0_0 v0_1=>spec_l1New_x0_0 D n v0_0 v0_1) n x0 x1 x2)
def spec_l1New_e (D:DX)(n:Nat) (lp0:List Int→Int→Int→Option ((tCur×Unit)×Unit)) (a0:List Int):Option ((tCur×Unit)×Unit):=lp0 a0 (IntKind.wrap IntKind.i64 (27323+(↑(List.length a0):Int))) 0
def F_spec_l1New (D:DX)(n:Nat) (a0:List Int):Option ((tCur×Unit)×Unit):=spec_l1New_e D n (spec_l1New_LP0 D n) a0
def spec_l1New_Q0 (x0:List Int) (x1:Int) (x2:Int):St:=stq 32 [(0,AV.val (Ty.sl (Ty.int IntKind.u8)) x0),(3,avI x1),(4,avI x2)] [] 
def spec_l1New_Q0_0 (v0_0:List Int) (v0_1:Int):St:=stq 32 [(0,AV.val (Ty.sl (Ty.int IntKind.u8)) v0_0),(3,avI v0_1)] [] 
theorem spec_l1New_SB0 (D:DX)(n:Nat) (m:Nat) (K:Ex→St→Option (Out ctx 88)) (x0:List Int) (x1:Int) (x2:Int) :
  LQ funcTab D n 88 [.r,.r,.l,.r,.l] (m+1) (spec_l1New_Q0 x0 x1 x2) K=spec_l1New_b0 D n (fun x0 x1 x2=>LQ funcTab D n 88 [.r,.r,.l,.r,.l] m (spec_l1New_Q0 x0 x1 x2) K) (fun v0_0 v0_1=>K (Ex.exit 0) (spec_l1New_Q0_0 v0_0 v0_1)) x0 x1 x2:=by kernel_rfl
theorem spec_l1New_EL0 (D:DX)(n:Nat) (K:Ex→St→Option (Out ctx 88)):∀ (m:Nat) (x0:List Int) (x1:Int) (x2:Int),LQ funcTab D n 88 [.r,.r,.l,.r,.l] m (spec_l1New_Q0 x0 x1 x2) K=spec_l1New_L0 D n (fun v0_0 v0_1=>K (Ex.exit 0) (spec_l1New_Q0_0 v0_0 v0_1)) m x0 x1 x2
  | 0,x0,x1,x2=>LQ_zero ..
  | m+1,x0,x1,x2=>by
    have ih:(fun x0 x1 x2=>LQ funcTab D n 88 [.r,.r,.l,.r,.l] m (spec_l1New_Q0 x0 x1 x2) K)=spec_l1New_L0 D n (fun v0_0 v0_1=>K (Ex.exit 0) (spec_l1New_Q0_0 v0_0 v0_1)) m:=by funext x0 x1 x2;exact spec_l1New_EL0 D n K m x0 x1 x2
    rw[spec_l1New_SB0]
    rw[ih];rfl
theorem spec_l1New_X0_0 (D:DX)(n:Nat) (v0_0:List Int) (v0_1:Int) :
  (CQ funcTab D n 88 [] [.r,.r,.l,.r,.l] (lastK funcTab 88)) (Ex.exit 0) (spec_l1New_Q0_0 v0_0 v0_1)=spec_l1New_x0_0 D n v0_0 v0_1:=by kernel_rfl
theorem spec_l1New_ELP0 (D:DX)(n:Nat) (x0:List Int) (x1:Int) (x2:Int) :
  LQ funcTab D n 88 [.r,.r,.l,.r,.l] n (spec_l1New_Q0 x0 x1 x2) (CQ funcTab D n 88 [] [.r,.r,.l,.r,.l] (lastK funcTab 88))=spec_l1New_LP0 D n x0 x1 x2:=by
  rw[spec_l1New_EL0]
  simp only[spec_l1New_X0_0]
  rfl
theorem E_spec_l1New (D:DX)(n:Nat) (a0:List Int):rfC funcTab D n 88 (a0,())=F_spec_l1New D n a0:=by
  have h:rfC funcTab D n 88 (a0,())=spec_l1New_e D n (fun x0 x1 x2=>LQ funcTab D n 88 [.r,.r,.l,.r,.l] n (spec_l1New_Q0 x0 x1 x2) (CQ funcTab D n 88 [] [.r,.r,.l,.r,.l] (lastK funcTab 88))) a0:=by kernel_rfl
  rw[h]
  simp only[spec_l1New_ELP0]
  rfl


def spec_l19DrawRow_b0 (D:DX)(n:Nat) (go:Int→List Int×Int×Int×Unit→tSch→tVals→Option ((tVals×Unit)×tCur×Unit)) (K0:List Int×Int×Int×Unit→tVals→Option ((tVals×Unit)×tCur×Unit)) (x0:Int) (x1:List Int×Int×Int×Unit) (x2:tSch) (x3:tVals):Option ((tVals×Unit)×tCur×Unit):=br (decide (x0<(↑(List.length (Prod.fst x2)):Int))) (br (decide (0≤x0)&&decide (x0<(↑(List.length (Prod.fst x2)):Int))) (br (Prod.fst (Prod.snd (Prod.snd (List.getD (Prod.fst x2) (Int.toNat x0) (ByteArray.empty,0,false,()))))) (bindD (C_spec_l1Once D x1 3) fun b↦br (Prod.fst (Prod.fst b)) (br (decide (List.length x3+1≤bound)) (go (IntKind.wrap IntKind.i64 (x0+1)) (Prod.fst (Prod.snd b)) x2 (x3++[(0,0,ByteArray.empty,())])) none) (br (decide (0≤x0)&&decide (x0<(↑(List.length (Prod.fst x2)):Int))) (bindD (C_spec_l17DrawOf D (Prod.fst (Prod.snd b)) (Prod.fst (Prod.snd (List.getD (Prod.fst x2) (Int.toNat x0) (ByteArray.empty,0,false,()))))) fun b↦br (decide (List.length x3+1≤bound)) (go (IntKind.wrap IntKind.i64 (x0+1)) (Prod.fst (Prod.snd b)) x2 (x3++[Prod.fst (Prod.fst b)])) none) none)) (br (decide (0≤x0)&&decide (x0<(↑(List.length (Prod.fst x2)):Int))) (bindD (C_spec_l17DrawOf D x1 (Prod.fst (Prod.snd (List.getD (Prod.fst x2) (Int.toNat x0) (ByteArray.empty,0,false,()))))) fun b↦br (decide (List.length x3+1≤bound)) (go (IntKind.wrap IntKind.i64 (x0+1)) (Prod.fst (Prod.snd b)) x2 (x3++[Prod.fst (Prod.fst b)])) none) none)) none) (K0 x1 x3)
def spec_l19DrawRow_L0 (D:DX)(n:Nat) (K0:List Int×Int×Int×Unit→tVals→Option ((tVals×Unit)×tCur×Unit)):Nat→(Int)→tCur→(tSch)→(tVals)→Option ((tVals×Unit)×tCur×Unit) | 0=>(fun x0 x1 x2 x3=>none) | m+1=>(fun x0 x1 x2 x3=>spec_l19DrawRow_b0 D n (spec_l19DrawRow_L0 D n K0 m) K0 x0 x1 x2 x3)
def spec_l19DrawRow_x0_0 (D:DX)(n:Nat) (v0_0:List Int×Int×Int×Unit) (v0_1:tVals):Option ((tVals×Unit)×tCur×Unit):=some ((v0_1,()),v0_0,())
def spec_l19DrawRow_LP0 (D:DX)(n:Nat):(Int)→tCur→(tSch)→(tVals)→Option ((tVals×Unit)×tCur×Unit):=(fun x0 x1 x2 x3=>spec_l19DrawRow_L0 D n (fun v0_0 v0_1=>spec_l19DrawRow_x0_0 D n v0_0 v0_1) n x0 x1 x2 x3)
def spec_l19DrawRow_e (D:DX)(n:Nat) (lp0:Int→List Int×Int×Int×Unit→tSch→tVals→Option ((tVals×Unit)×tCur×Unit)) (a0:List Int×Int×Int×Unit) (a1:tSch):Option ((tVals×Unit)×tCur×Unit):=lp0 0 a0 a1 []
def F_spec_l19DrawRow (D:DX)(n:Nat) (a0:List Int×Int×Int×Unit) (a1:tSch):Option ((tVals×Unit)×tCur×Unit):=spec_l19DrawRow_e D n (spec_l19DrawRow_LP0 D n) a0 a1
def spec_l19DrawRow_Q0 (x0:Int) (x1:List Int×Int×Int×Unit) (x2:tSch) (x3:tVals):St:=stq 41 [(0,AV.addr 0 []),(3,AV.addr 3 []),(5,AV.brw 5 [] 0),(6,avI x0)] [(0,Root.mk (Ty.pair (Ty.sl (Ty.int IntKind.u8)) (Ty.pair yI (Ty.pair yI Ty.unit))) Mk.no x1 true),(3,Root.mk yS Mk.no x2 true),(5,Root.mk (Ty.sl yV) (Mk.own 0 (Mk.pr Mk.no (Mk.pr Mk.no (Mk.pr Mk.no Mk.no)))) x3 false)] 
def spec_l19DrawRow_Q0_0 (v0_0:List Int×Int×Int×Unit) (v0_1:tVals):St:=stq 41 [(0,AV.addr 0 []),(5,AV.brw 5 [] 0)] [(0,Root.mk (Ty.pair (Ty.sl (Ty.int IntKind.u8)) (Ty.pair yI (Ty.pair yI Ty.unit))) Mk.no v0_0 true),(5,Root.mk (Ty.sl yV) (Mk.own 0 (Mk.pr Mk.no (Mk.pr Mk.no (Mk.pr Mk.no Mk.no)))) v0_1 false)] 
theorem spec_l19DrawRow_SB0 (D:DX)(n:Nat) (m:Nat) (K:Ex→St→Option (Out ctx 90)) (x0:Int) (x1:List Int×Int×Int×Unit) (x2:tSch) (x3:tVals) :
  LQ funcTab D n 90 [.r,.r,.l,.r,.l] (m+1) (spec_l19DrawRow_Q0 x0 x1 x2 x3) K=spec_l19DrawRow_b0 D n (fun x0 x1 x2 x3=>LQ funcTab D n 90 [.r,.r,.l,.r,.l] m (spec_l19DrawRow_Q0 x0 x1 x2 x3) K) (fun v0_0 v0_1=>K (Ex.exit 0) (spec_l19DrawRow_Q0_0 v0_0 v0_1)) x0 x1 x2 x3:=by kernel_rfl
theorem spec_l19DrawRow_EL0 (D:DX)(n:Nat) (K:Ex→St→Option (Out ctx 90)):∀ (m:Nat) (x0:Int) (x1:List Int×Int×Int×Unit) (x2:tSch) (x3:tVals),LQ funcTab D n 90 [.r,.r,.l,.r,.l] m (spec_l19DrawRow_Q0 x0 x1 x2 x3) K=spec_l19DrawRow_L0 D n (fun v0_0 v0_1=>K (Ex.exit 0) (spec_l19DrawRow_Q0_0 v0_0 v0_1)) m x0 x1 x2 x3
  | 0,x0,x1,x2,x3=>LQ_zero ..
  | m+1,x0,x1,x2,x3=>by
    have ih:(fun x0 x1 x2 x3=>LQ funcTab D n 90 [.r,.r,.l,.r,.l] m (spec_l19DrawRow_Q0 x0 x1 x2 x3) K)=spec_l19DrawRow_L0 D n (fun v0_0 v0_1=>K (Ex.exit 0) (spec_l19DrawRow_Q0_0 v0_0 v0_1)) m:=by funext x0 x1 x2 x3;exact spec_l19DrawRow_EL0 D n K m x0 x1 x2 x3
    rw[spec_l19DrawRow_SB0]
    rw[ih];rfl
theorem spec_l19DrawRow_X0_0 (D:DX)(n:Nat) (v0_0:List Int×Int×Int×Unit) (v0_1:tVals) :
  (CQ funcTab D n 90 [] [.r,.r,.l,.r,.l] (lastK funcTab 90)) (Ex.exit 0) (spec_l19DrawRow_Q0_0 v0_0 v0_1)=spec_l19DrawRow_x0_0 D n v0_0 v0_1:=by kernel_rfl
theorem spec_l19DrawRow_ELP0 (D:DX)(n:Nat) (x0:Int) (x1:List Int×Int×Int×Unit) (x2:tSch) (x3:tVals) :
  LQ funcTab D n 90 [.r,.r,.l,.r,.l] n (spec_l19DrawRow_Q0 x0 x1 x2 x3) (CQ funcTab D n 90 [] [.r,.r,.l,.r,.l] (lastK funcTab 90))=spec_l19DrawRow_LP0 D n x0 x1 x2 x3:=by
  rw[spec_l19DrawRow_EL0]
  simp only[spec_l19DrawRow_X0_0]
  rfl
theorem E_spec_l19DrawRow (D:DX)(n:Nat) (a0:List Int×Int×Int×Unit) (a1:tSch):rfC funcTab D n 90 (a0,(a1,()))=F_spec_l19DrawRow D n a0 a1:=by
  have h:rfC funcTab D n 90 (a0,(a1,()))=spec_l19DrawRow_e D n (fun x0 x1 x2 x3=>LQ funcTab D n 90 [.r,.r,.l,.r,.l] n (spec_l19DrawRow_Q0 x0 x1 x2 x3) (CQ funcTab D n 90 [] [.r,.r,.l,.r,.l] (lastK funcTab 90))) a0 a1:=by kernel_rfl
  rw[h]
  simp only[spec_l19DrawRow_ELP0]
  rfl

def spec_l1Below_e (D:DX)(n:Nat) (a0:List Int×Int×Int×Unit) (a1:Int):Option ((Int×Unit)×tCur×Unit):=br (decide (a1≤0)) (some ((0,()),a0,())) (br (decide (a1≤256)) (bindD (C_spec_l1Byte D a0) fun b↦br (decide (a1=0)) none (some ((Int.tmod (Prod.fst (Prod.fst b)) a1,()),Prod.fst (Prod.snd b),()))) (bindD (C_spec_l1Byte D a0) fun b↦bindD (C_spec_l1Byte D (Prod.fst (Prod.snd b))) fun b_1↦bindD (C_spec_l1Byte D (Prod.fst (Prod.snd b_1))) fun b_2↦bindD (C_spec_l1Byte D (Prod.fst (Prod.snd b_2))) fun b_3↦br (decide (a1=0)) none (some ((Int.tmod (IntKind.wrap IntKind.i64 (IntKind.wrap IntKind.i64 (IntKind.wrap IntKind.i64 (IntKind.wrap IntKind.i64 (Prod.fst (Prod.fst b) * 16777216)+IntKind.wrap IntKind.i64 (Prod.fst (Prod.fst b_1) * 65536))+IntKind.wrap IntKind.i64 (Prod.fst (Prod.fst b_2) * 256))+Prod.fst (Prod.fst b_3))) a1,()),Prod.fst (Prod.snd b_3),()))))
def F_spec_l1Below (D:DX)(n:Nat) (a0:List Int×Int×Int×Unit) (a1:Int):Option ((Int×Unit)×tCur×Unit):=spec_l1Below_e D n a0 a1
theorem E_spec_l1Below (D:DX)(n:Nat) (a0:List Int×Int×Int×Unit) (a1:Int):rfC funcTab D n 91 (a0,(a1,()))=F_spec_l1Below D n a0 a1:=by kernel_rfl


def spec_l1Pick_e (D:DX)(n:Nat) (a0:List Int×Int×Int×Unit) (a1:List ByteArray):Option ((ByteArray×Unit)×tCur×Unit):=bindD (C_spec_l1Below D a0 (↑(List.length a1):Int)) fun b↦br (decide (0≤Prod.fst (Prod.fst b))&&decide (Prod.fst (Prod.fst b)<(↑(List.length a1):Int))) (some ((List.getD a1 (Int.toNat (Prod.fst (Prod.fst b))) ByteArray.empty,()),Prod.fst (Prod.snd b),())) none
def F_spec_l1Pick (D:DX)(n:Nat) (a0:List Int×Int×Int×Unit) (a1:List ByteArray):Option ((ByteArray×Unit)×tCur×Unit):=spec_l1Pick_e D n a0 a1
theorem E_spec_l1Pick (D:DX)(n:Nat) (a0:List Int×Int×Int×Unit) (a1:List ByteArray):rfC funcTab D n 93 (a0,(a1,()))=F_spec_l1Pick D n a0 a1:=by kernel_rfl

def impl_ValueOk_e (D:DX)(n:Nat) (a0:Int×Int×ByteArray×Unit):Option ((Bool×Unit)×Unit):=br (decide (Prod.fst a0=0)) (some ((bif decide (Prod.fst (Prod.snd a0)=0) then List.beq (ByteArray.toList (Prod.fst (Prod.snd (Prod.snd a0)))) (ByteArray.toList (ByteArray.mk #[])) else false,()),())) (br (decide (Prod.fst a0=1)) (bindD (C_impl_from D (Prod.fst (Prod.snd a0)) 0 1) fun b↦some ((bif Prod.fst (Prod.fst b) then List.beq (ByteArray.toList (Prod.fst (Prod.snd (Prod.snd a0)))) (ByteArray.toList (ByteArray.mk #[])) else false,()),())) (br (decide (Prod.fst a0=2)) (bindD (C_impl_from D (Prod.fst (Prod.snd a0)) (-1000000000000) 1000000000000) fun b↦some ((bif Prod.fst (Prod.fst b) then List.beq (ByteArray.toList (Prod.fst (Prod.snd (Prod.snd a0)))) (ByteArray.toList (ByteArray.mk #[])) else false,()),())) (br (decide (Prod.fst a0=3)) (some ((bif decide (Prod.fst (Prod.snd a0)=0) then decide ((↑(ByteArray.size (Prod.fst (Prod.snd (Prod.snd a0)))):Int)≤20) else false,()),())) (some ((false,()),())))))
def F_impl_ValueOk (D:DX)(n:Nat) (a0:Int×Int×ByteArray×Unit):Option ((Bool×Unit)×Unit):=impl_ValueOk_e D n a0
theorem E_impl_ValueOk (D:DX)(n:Nat) (a0:Int×Int×ByteArray×Unit):rfC funcTab D n 94 (a0,())=F_impl_ValueOk D n a0:=by kernel_rfl

def spec_ValueOk_e (D:DX)(n:Nat) (a0:Int×Int×ByteArray×Unit):Option ((Bool×Unit)×Unit):=br (decide (Prod.fst a0=0)) (some ((bif decide (Prod.fst (Prod.snd a0)=0) then List.beq (ByteArray.toList (Prod.fst (Prod.snd (Prod.snd a0)))) (ByteArray.toList (ByteArray.mk #[])) else false,()),())) (br (decide (Prod.fst a0=1)) (bindD (C_spec_l1In D (Prod.fst (Prod.snd a0)) 0 1) fun b↦some ((bif Prod.fst (Prod.fst b) then List.beq (ByteArray.toList (Prod.fst (Prod.snd (Prod.snd a0)))) (ByteArray.toList (ByteArray.mk #[])) else false,()),())) (br (decide (Prod.fst a0=2)) (bindD (C_spec_l1In D (Prod.fst (Prod.snd a0)) (-1000000000000) 1000000000000) fun b↦some ((bif Prod.fst (Prod.fst b) then List.beq (ByteArray.toList (Prod.fst (Prod.snd (Prod.snd a0)))) (ByteArray.toList (ByteArray.mk #[])) else false,()),())) (br (decide (Prod.fst a0=3)) (some ((bif decide (Prod.fst (Prod.snd a0)=0) then decide ((↑(ByteArray.size (Prod.fst (Prod.snd (Prod.snd a0)))):Int)≤20) else false,()),())) (some ((false,()),())))))
def F_spec_ValueOk (D:DX)(n:Nat) (a0:Int×Int×ByteArray×Unit):Option ((Bool×Unit)×Unit):=spec_ValueOk_e D n a0
theorem E_spec_ValueOk (D:DX)(n:Nat) (a0:Int×Int×ByteArray×Unit):rfC funcTab D n 95 (a0,())=F_spec_ValueOk D n a0:=by kernel_rfl

def slices_IndexFunc_impl_Col_impl_Col_b0 (D:DX)(n:Nat) (a1:Clo) (go:tCols→Int→Int→Option ((Int×Unit)×Unit)) (K0:Int→Option ((Int×Unit)×Unit)) (K1:Option ((Int×Unit)×Unit)) (x0:tCols) (x1:Int) (x2:Int):Option ((Int×Unit)×Unit):=br (decide (x2<x1)) (br (decide (0≤x2)&&decide (x2<(↑(List.length x0):Int))) (bindD (applyClo ctx D a1 [CapV.val (Ty.pair Ty.str (Ty.pair (Ty.int IntKind.i64) (Ty.pair Ty.bool Ty.unit))) (List.getD x0 (Int.toNat x2) (ByteArray.empty,0,false,()))] Ty.bool) fun b↦br b (K0 x2) (go x0 x1 (IntKind.wrap IntKind.i64 (x2+1)))) none) K1
def slices_IndexFunc_impl_Col_impl_Col_L0 (D:DX)(n:Nat) (a1:Clo) (K0:Int→Option ((Int×Unit)×Unit)) (K1:Option ((Int×Unit)×Unit)):Nat→(tCols)→(Int)→(Int)→Option ((Int×Unit)×Unit) | 0=>(fun x0 x1 x2=>none) | m+1=>(fun x0 x1 x2=>slices_IndexFunc_impl_Col_impl_Col_b0 D n a1 (slices_IndexFunc_impl_Col_impl_Col_L0 D n a1 K0 K1 m) K0 K1 x0 x1 x2)
def slices_IndexFunc_impl_Col_impl_Col_x0_0 (D:DX)(n:Nat) (a1:Clo) (v0_0:Int):Option ((Int×Unit)×Unit):=some ((v0_0,()),())
def slices_IndexFunc_impl_Col_impl_Col_x0_1 (D:DX)(n:Nat) (a1:Clo):Option ((Int×Unit)×Unit):=some ((-1,()),())
def slices_IndexFunc_impl_Col_impl_Col_LP0 (D:DX)(n:Nat) (a1:Clo):(tCols)→(Int)→(Int)→Option ((Int×Unit)×Unit):=(fun x0 x1 x2=>slices_IndexFunc_impl_Col_impl_Col_L0 D n a1 (fun v0_0=>slices_IndexFunc_impl_Col_impl_Col_x0_0 D n a1 v0_0) (slices_IndexFunc_impl_Col_impl_Col_x0_1 D n a1) n x0 x1 x2)
def slices_IndexFunc_impl_Col_impl_Col_e (D:DX)(n:Nat) (a1:Clo) (lp0:tCols→Int→Int→Option ((Int×Unit)×Unit)) (a0:tCols):Option ((Int×Unit)×Unit):=lp0 a0 (↑(List.length a0):Int) 0
def F_slices_IndexFunc_impl_Col_impl_Col (D:DX)(n:Nat) (a0:tCols) (a1:Clo):Option ((Int×Unit)×Unit):=slices_IndexFunc_impl_Col_impl_Col_e D n a1 (slices_IndexFunc_impl_Col_impl_Col_LP0 D n a1) a0
def slices_IndexFunc_impl_Col_impl_Col_Q0 (a1:Clo) (x0:tCols) (x1:Int) (x2:Int):St:=stq 19 [(0,AV.val (Ty.sl yC) x0),(1,AV.cloV a1),(7,avI x1),(8,avI x2)] [] 
def slices_IndexFunc_impl_Col_impl_Col_Q0_0 (a1:Clo) (v0_0:Int):St:=stq 19 [(4,avI v0_0)] [] 
def slices_IndexFunc_impl_Col_impl_Col_Q0_1 (a1:Clo):St:=stq 19 [] [] 
theorem slices_IndexFunc_impl_Col_impl_Col_SB0 (D:DX)(n:Nat) (a1:Clo) (m:Nat) (K:Ex→St→Option (Out ctx 96)) (x0:tCols) (x1:Int) (x2:Int) :
  LQ funcTab D n 96 [.r,.l,.r,.l] (m+1) (slices_IndexFunc_impl_Col_impl_Col_Q0 a1 x0 x1 x2) K=slices_IndexFunc_impl_Col_impl_Col_b0 D n a1 (fun x0 x1 x2=>LQ funcTab D n 96 [.r,.l,.r,.l] m (slices_IndexFunc_impl_Col_impl_Col_Q0 a1 x0 x1 x2) K) (fun v0_0=>K (Ex.ret) (slices_IndexFunc_impl_Col_impl_Col_Q0_0 a1 v0_0)) (K (Ex.exit 0) (slices_IndexFunc_impl_Col_impl_Col_Q0_1 a1)) x0 x1 x2:=by kernel_rfl
theorem slices_IndexFunc_impl_Col_impl_Col_EL0 (D:DX)(n:Nat) (a1:Clo) (K:Ex→St→Option (Out ctx 96)):∀ (m:Nat) (x0:tCols) (x1:Int) (x2:Int),LQ funcTab D n 96 [.r,.l,.r,.l] m (slices_IndexFunc_impl_Col_impl_Col_Q0 a1 x0 x1 x2) K=slices_IndexFunc_impl_Col_impl_Col_L0 D n a1 (fun v0_0=>K (Ex.ret) (slices_IndexFunc_impl_Col_impl_Col_Q0_0 a1 v0_0)) (K (Ex.exit 0) (slices_IndexFunc_impl_Col_impl_Col_Q0_1 a1)) m x0 x1 x2
  | 0,x0,x1,x2=>LQ_zero ..
  | m+1,x0,x1,x2=>by
    have ih:(fun x0 x1 x2=>LQ funcTab D n 96 [.r,.l,.r,.l] m (slices_IndexFunc_impl_Col_impl_Col_Q0 a1 x0 x1 x2) K)=slices_IndexFunc_impl_Col_impl_Col_L0 D n a1 (fun v0_0=>K (Ex.ret) (slices_IndexFunc_impl_Col_impl_Col_Q0_0 a1 v0_0)) (K (Ex.exit 0) (slices_IndexFunc_impl_Col_impl_Col_Q0_1 a1)) m:=by funext x0 x1 x2;exact slices_IndexFunc_impl_Col_impl_Col_EL0 D n a1 K m x0 x1 x2
    rw[slices_IndexFunc_impl_Col_impl_Col_SB0]
    rw[ih];rfl
theorem slices_IndexFunc_impl_Col_impl_Col_X0_0 (D:DX)(n:Nat) (a1:Clo) (v0_0:Int) :
  (CQ funcTab D n 96 [] [.r,.l,.r,.l] (lastK funcTab 96)) (Ex.ret) (slices_IndexFunc_impl_Col_impl_Col_Q0_0 a1 v0_0)=slices_IndexFunc_impl_Col_impl_Col_x0_0 D n a1 v0_0:=by kernel_rfl
theorem slices_IndexFunc_impl_Col_impl_Col_X0_1 (D:DX)(n:Nat) (a1:Clo) :
  (CQ funcTab D n 96 [] [.r,.l,.r,.l] (lastK funcTab 96)) (Ex.exit 0) (slices_IndexFunc_impl_Col_impl_Col_Q0_1 a1)=slices_IndexFunc_impl_Col_impl_Col_x0_1 D n a1:=by kernel_rfl
theorem slices_IndexFunc_impl_Col_impl_Col_ELP0 (D:DX)(n:Nat) (a1:Clo) (x0:tCols) (x1:Int) (x2:Int) :
  LQ funcTab D n 96 [.r,.l,.r,.l] n (slices_IndexFunc_impl_Col_impl_Col_Q0 a1 x0 x1 x2) (CQ funcTab D n 96 [] [.r,.l,.r,.l] (lastK funcTab 96))=slices_IndexFunc_impl_Col_impl_Col_LP0 D n a1 x0 x1 x2:=by
  rw[slices_IndexFunc_impl_Col_impl_Col_EL0]
  simp only[slices_IndexFunc_impl_Col_impl_Col_X0_0,slices_IndexFunc_impl_Col_impl_Col_X0_1]
  rfl
theorem E_slices_IndexFunc_impl_Col_impl_Col (D:DX)(n:Nat) (a0:tCols) (a1:Clo):rfC funcTab D n 96 (a0,(a1,()))=F_slices_IndexFunc_impl_Col_impl_Col D n a0 a1:=by
  have h:rfC funcTab D n 96 (a0,(a1,()))=slices_IndexFunc_impl_Col_impl_Col_e D n a1 (fun x0 x1 x2=>LQ funcTab D n 96 [.r,.l,.r,.l] n (slices_IndexFunc_impl_Col_impl_Col_Q0 a1 x0 x1 x2) (CQ funcTab D n 96 [] [.r,.l,.r,.l] (lastK funcTab 96))) a0:=by kernel_rfl
  rw[h]
  simp only[slices_IndexFunc_impl_Col_impl_Col_ELP0]
  rfl

def impl_ColAt_1_e (D:DX)(n:Nat) (a0:ByteArray×Int×Bool×Unit) (a1:ByteArray):Option ((Bool×Unit)×Unit):=some ((List.beq (ByteArray.toList (Prod.fst a0)) (ByteArray.toList a1),()),())
def F_impl_ColAt_1 (D:DX)(n:Nat) (a0:ByteArray×Int×Bool×Unit) (a1:ByteArray):Option ((Bool×Unit)×Unit):=impl_ColAt_1_e D n a0 a1
theorem E_impl_ColAt_1 (D:DX)(n:Nat) (a0:ByteArray×Int×Bool×Unit) (a1:ByteArray):rfC funcTab D n 97 (a0,(a1,()))=F_impl_ColAt_1 D n a0 a1:=by kernel_rfl

def spec_Project_b0 (D:DX)(n:Nat) (go:tVals→List Int→Int→tVals→Option ((tVals×Unit)×Unit)) (K0:tVals→Option ((tVals×Unit)×Unit)) (x0:tVals) (x1:List Int) (x2:Int) (x3:tVals):Option ((tVals×Unit)×Unit):=br (decide (x2<(↑(List.length x1):Int))) (br (decide (0≤x2)&&decide (x2<(↑(List.length x1):Int))) (bindD (C_spec_l1In D (List.getD x1 (Int.toNat x2) 0) 0 (IntKind.wrap IntKind.i64 ((↑(List.length x0):Int) - 1))) fun b↦br (Prod.fst (Prod.fst b)) (br (decide (0≤x2)&&decide (x2<(↑(List.length x1):Int))) (br (decide (0≤List.getD x1 (Int.toNat x2) 0)&&decide (List.getD x1 (Int.toNat x2) 0<(↑(List.length x0):Int))) (br (decide (List.length x3+1≤bound)) (go x0 x1 (IntKind.wrap IntKind.i64 (x2+1)) (x3++[List.getD x0 (Int.toNat (List.getD x1 (Int.toNat x2) 0)) (0,0,ByteArray.empty,())])) none) none) none) (go x0 x1 (IntKind.wrap IntKind.i64 (x2+1)) x3)) none) (K0 x3)
def spec_Project_L0 (D:DX)(n:Nat) (K0:tVals→Option ((tVals×Unit)×Unit)):Nat→(tVals)→(List Int)→(Int)→(tVals)→Option ((tVals×Unit)×Unit) | 0=>(fun x0 x1 x2 x3=>none) | m+1=>(fun x0 x1 x2 x3=>spec_Project_b0 D n (spec_Project_L0 D n K0 m) K0 x0 x1 x2 x3)
def spec_Project_x0_0 (D:DX)(n:Nat) (v0_0:tVals):Option ((tVals×Unit)×Unit):=some ((v0_0,()),())
def spec_Project_LP0 (D:DX)(n:Nat):(tVals)→(List Int)→(Int)→(tVals)→Option ((tVals×Unit)×Unit):=(fun x0 x1 x2 x3=>spec_Project_L0 D n (fun v0_0=>spec_Project_x0_0 D n v0_0) n x0 x1 x2 x3)
def spec_Project_e (D:DX)(n:Nat) (lp0:tVals→List Int→Int→tVals→Option ((tVals×Unit)×Unit)) (a0:tVals) (a1:List Int):Option ((tVals×Unit)×Unit):=lp0 a0 a1 0 []
def F_spec_Project (D:DX)(n:Nat) (a0:tVals) (a1:List Int):Option ((tVals×Unit)×Unit):=spec_Project_e D n (spec_Project_LP0 D n) a0 a1
def spec_Project_Q0 (x0:tVals) (x1:List Int) (x2:Int) (x3:tVals):St:=stq 33 [(0,AV.val (Ty.sl yV) x0),(1,AV.val (Ty.sl yI) x1),(5,AV.brw 5 [] 0),(6,avI x2)] [(5,Root.mk (Ty.sl yV) (Mk.own 0 (Mk.pr Mk.no (Mk.pr Mk.no (Mk.pr Mk.no Mk.no)))) x3 false)] 
def spec_Project_Q0_0 (v0_0:tVals):St:=stq 33 [(5,AV.brw 5 [] 0)] [(5,Root.mk (Ty.sl yV) (Mk.own 0 (Mk.pr Mk.no (Mk.pr Mk.no (Mk.pr Mk.no Mk.no)))) v0_0 false)] 
theorem spec_Project_SB0 (D:DX)(n:Nat) (m:Nat) (K:Ex→St→Option (Out ctx 98)) (x0:tVals) (x1:List Int) (x2:Int) (x3:tVals) :
  LQ funcTab D n 98 [.r,.r,.l,.r,.l] (m+1) (spec_Project_Q0 x0 x1 x2 x3) K=spec_Project_b0 D n (fun x0 x1 x2 x3=>LQ funcTab D n 98 [.r,.r,.l,.r,.l] m (spec_Project_Q0 x0 x1 x2 x3) K) (fun v0_0=>K (Ex.exit 0) (spec_Project_Q0_0 v0_0)) x0 x1 x2 x3:=by kernel_rfl
theorem spec_Project_EL0 (D:DX)(n:Nat) (K:Ex→St→Option (Out ctx 98)):∀ (m:Nat) (x0:tVals) (x1:List Int) (x2:Int) (x3:tVals),LQ funcTab D n 98 [.r,.r,.l,.r,.l] m (spec_Project_Q0 x0 x1 x2 x3) K=spec_Project_L0 D n (fun v0_0=>K (Ex.exit 0) (spec_Project_Q0_0 v0_0)) m x0 x1 x2 x3
  | 0,x0,x1,x2,x3=>LQ_zero ..
  | m+1,x0,x1,x2,x3=>by
    have ih:(fun x0 x1 x2 x3=>LQ funcTab D n 98 [.r,.r,.l,.r,.l] m (spec_Project_Q0 x0 x1 x2 x3) K)=spec_Project_L0 D n (fun v0_0=>K (Ex.exit 0) (spec_Project_Q0_0 v0_0)) m:=by funext x0 x1 x2 x3;exact spec_Project_EL0 D n K m x0 x1 x2 x3
    rw[spec_Project_SB0]
    rw[ih];rfl
theorem spec_Project_X0_0 (D:DX)(n:Nat) (v0_0:tVals) :
  (CQ funcTab D n 98 [] [.r,.r,.l,.r,.l] (lastK funcTab 98)) (Ex.exit 0) (spec_Project_Q0_0 v0_0)=spec_Project_x0_0 D n v0_0:=by kernel_rfl
theorem spec_Project_ELP0 (D:DX)(n:Nat) (x0:tVals) (x1:List Int) (x2:Int) (x3:tVals) :
  LQ funcTab D n 98 [.r,.r,.l,.r,.l] n (spec_Project_Q0 x0 x1 x2 x3) (CQ funcTab D n 98 [] [.r,.r,.l,.r,.l] (lastK funcTab 98))=spec_Project_LP0 D n x0 x1 x2 x3:=by
  rw[spec_Project_EL0]
  simp only[spec_Project_X0_0]
  rfl
theorem E_spec_Project (D:DX)(n:Nat) (a0:tVals) (a1:List Int):rfC funcTab D n 98 (a0,(a1,()))=F_spec_Project D n a0 a1:=by
  have h:rfC funcTab D n 98 (a0,(a1,()))=spec_Project_e D n (fun x0 x1 x2 x3=>LQ funcTab D n 98 [.r,.r,.l,.r,.l] n (spec_Project_Q0 x0 x1 x2 x3) (CQ funcTab D n 98 [] [.r,.r,.l,.r,.l] (lastK funcTab 98))) a0 a1:=by kernel_rfl
  rw[h]
  simp only[spec_Project_ELP0]
  rfl













def spec_TupleLess_b0 (D:DX)(n:Nat) (go:tVals→tVals→Int→Option ((Bool×Unit)×Unit)) (K0:tVals→tVals→Bool→Option ((Bool×Unit)×Unit)) (K1:tVals→tVals→Option ((Bool×Unit)×Unit)) (x0:tVals) (x1:tVals) (x2:Int):Option ((Bool×Unit)×Unit):=br (bif decide (x2<(↑(List.length x0):Int)) then decide (x2<(↑(List.length x1):Int)) else false) (br (decide (0≤x2)&&decide (x2<(↑(List.length x0):Int))) (br (decide (0≤x2)&&decide (x2<(↑(List.length x1):Int))) (bindD (C_spec_ValueSame D (List.getD x0 (Int.toNat x2) (0,0,ByteArray.empty,())) (List.getD x1 (Int.toNat x2) (0,0,ByteArray.empty,()))) fun b↦br (!Prod.fst (Prod.fst b)) (br (decide (0≤x2)&&decide (x2<(↑(List.length x0):Int))) (br (decide (0≤x2)&&decide (x2<(↑(List.length x1):Int))) (bindD (C_spec_ValueLess D (List.getD x0 (Int.toNat x2) (0,0,ByteArray.empty,())) (List.getD x1 (Int.toNat x2) (0,0,ByteArray.empty,()))) fun b↦K0 x0 x1 (Prod.fst (Prod.fst b))) none) none) (go x0 x1 (IntKind.wrap IntKind.i64 (x2+1)))) none) none) (K1 x0 x1)
def spec_TupleLess_L0 (D:DX)(n:Nat) (K0:tVals→tVals→Bool→Option ((Bool×Unit)×Unit)) (K1:tVals→tVals→Option ((Bool×Unit)×Unit)):Nat→(tVals)→(tVals)→(Int)→Option ((Bool×Unit)×Unit) | 0=>(fun x0 x1 x2=>none) | m+1=>(fun x0 x1 x2=>spec_TupleLess_b0 D n (spec_TupleLess_L0 D n K0 K1 m) K0 K1 x0 x1 x2)
def spec_TupleLess_x0_0 (D:DX)(n:Nat) (v0_0:tVals) (v0_1:tVals) (v0_2:Bool):Option ((Bool×Unit)×Unit):=some ((v0_2,()),())
def spec_TupleLess_x0_1 (D:DX)(n:Nat) (v1_0:tVals) (v1_1:tVals):Option ((Bool×Unit)×Unit):=some ((decide ((↑(List.length v1_0):Int)<(↑(List.length v1_1):Int)),()),())
def spec_TupleLess_LP0 (D:DX)(n:Nat):(tVals)→(tVals)→(Int)→Option ((Bool×Unit)×Unit):=(fun x0 x1 x2=>spec_TupleLess_L0 D n (fun v0_0 v0_1 v0_2=>spec_TupleLess_x0_0 D n v0_0 v0_1 v0_2) (fun v1_0 v1_1=>spec_TupleLess_x0_1 D n v1_0 v1_1) n x0 x1 x2)
def spec_TupleLess_e (D:DX)(n:Nat) (lp0:tVals→tVals→Int→Option ((Bool×Unit)×Unit)) (a0:tVals) (a1:tVals):Option ((Bool×Unit)×Unit):=lp0 a0 a1 0
def F_spec_TupleLess (D:DX)(n:Nat) (a0:tVals) (a1:tVals):Option ((Bool×Unit)×Unit):=spec_TupleLess_e D n (spec_TupleLess_LP0 D n) a0 a1
def spec_TupleLess_Q0 (x0:tVals) (x1:tVals) (x2:Int):St:=stq 42 [(0,AV.val (Ty.sl yV) x0),(1,AV.val (Ty.sl yV) x1),(5,avI x2)] [] 
def spec_TupleLess_Q0_0 (v0_0:tVals) (v0_1:tVals) (v0_2:Bool):St:=stq 42 [(0,AV.val (Ty.sl yV) v0_0),(1,AV.val (Ty.sl yV) v0_1),(4,AV.val Ty.bool v0_2)] [] 
def spec_TupleLess_Q0_1 (v1_0:tVals) (v1_1:tVals):St:=stq 42 [(0,AV.val (Ty.sl yV) v1_0),(1,AV.val (Ty.sl yV) v1_1)] [] 
theorem spec_TupleLess_SB0 (D:DX)(n:Nat) (m:Nat) (K:Ex→St→Option (Out ctx 113)) (x0:tVals) (x1:tVals) (x2:Int) :
  LQ funcTab D n 113 [.r,.l,.r,.l] (m+1) (spec_TupleLess_Q0 x0 x1 x2) K=spec_TupleLess_b0 D n (fun x0 x1 x2=>LQ funcTab D n 113 [.r,.l,.r,.l] m (spec_TupleLess_Q0 x0 x1 x2) K) (fun v0_0 v0_1 v0_2=>K (Ex.ret) (spec_TupleLess_Q0_0 v0_0 v0_1 v0_2)) (fun v1_0 v1_1=>K (Ex.exit 0) (spec_TupleLess_Q0_1 v1_0 v1_1)) x0 x1 x2:=by kernel_rfl
theorem spec_TupleLess_EL0 (D:DX)(n:Nat) (K:Ex→St→Option (Out ctx 113)):∀ (m:Nat) (x0:tVals) (x1:tVals) (x2:Int),LQ funcTab D n 113 [.r,.l,.r,.l] m (spec_TupleLess_Q0 x0 x1 x2) K=spec_TupleLess_L0 D n (fun v0_0 v0_1 v0_2=>K (Ex.ret) (spec_TupleLess_Q0_0 v0_0 v0_1 v0_2)) (fun v1_0 v1_1=>K (Ex.exit 0) (spec_TupleLess_Q0_1 v1_0 v1_1)) m x0 x1 x2
  | 0,x0,x1,x2=>LQ_zero ..
  | m+1,x0,x1,x2=>by
    have ih:(fun x0 x1 x2=>LQ funcTab D n 113 [.r,.l,.r,.l] m (spec_TupleLess_Q0 x0 x1 x2) K)=spec_TupleLess_L0 D n (fun v0_0 v0_1 v0_2=>K (Ex.ret) (spec_TupleLess_Q0_0 v0_0 v0_1 v0_2)) (fun v1_0 v1_1=>K (Ex.exit 0) (spec_TupleLess_Q0_1 v1_0 v1_1)) m:=by funext x0 x1 x2;exact spec_TupleLess_EL0 D n K m x0 x1 x2
    rw[spec_TupleLess_SB0]
    rw[ih];rfl
theorem spec_TupleLess_X0_0 (D:DX)(n:Nat) (v0_0:tVals) (v0_1:tVals) (v0_2:Bool) :
  (CQ funcTab D n 113 [] [.r,.l,.r,.l] (lastK funcTab 113)) (Ex.ret) (spec_TupleLess_Q0_0 v0_0 v0_1 v0_2)=spec_TupleLess_x0_0 D n v0_0 v0_1 v0_2:=by kernel_rfl
theorem spec_TupleLess_X0_1 (D:DX)(n:Nat) (v1_0:tVals) (v1_1:tVals) :
  (CQ funcTab D n 113 [] [.r,.l,.r,.l] (lastK funcTab 113)) (Ex.exit 0) (spec_TupleLess_Q0_1 v1_0 v1_1)=spec_TupleLess_x0_1 D n v1_0 v1_1:=by kernel_rfl
theorem spec_TupleLess_ELP0 (D:DX)(n:Nat) (x0:tVals) (x1:tVals) (x2:Int) :
  LQ funcTab D n 113 [.r,.l,.r,.l] n (spec_TupleLess_Q0 x0 x1 x2) (CQ funcTab D n 113 [] [.r,.l,.r,.l] (lastK funcTab 113))=spec_TupleLess_LP0 D n x0 x1 x2:=by
  rw[spec_TupleLess_EL0]
  simp only[spec_TupleLess_X0_0,spec_TupleLess_X0_1]
  rfl
theorem E_spec_TupleLess (D:DX)(n:Nat) (a0:tVals) (a1:tVals):rfC funcTab D n 113 (a0,(a1,()))=F_spec_TupleLess D n a0 a1:=by
  have h:rfC funcTab D n 113 (a0,(a1,()))=spec_TupleLess_e D n (fun x0 x1 x2=>LQ funcTab D n 113 [.r,.l,.r,.l] n (spec_TupleLess_Q0 x0 x1 x2) (CQ funcTab D n 113 [] [.r,.l,.r,.l] (lastK funcTab 113))) a0 a1:=by kernel_rfl
  rw[h]
  simp only[spec_TupleLess_ELP0]
  rfl

def spec_l21Clash_b0 (D:DX)(n:Nat) (go:tVals→tVals→Int→tSch→Option ((Bool×Unit)×Unit)) (K0:Bool→Option ((Bool×Unit)×Unit)) (K1:Option ((Bool×Unit)×Unit)) (x0:tVals) (x1:tVals) (x2:Int) (x3:tSch):Option ((Bool×Unit)×Unit):=br (decide (x2<(↑(List.length (Prod.fst (Prod.snd (Prod.snd x3)))):Int))) (br (decide (0≤x2)&&decide (x2<(↑(List.length (Prod.fst (Prod.snd (Prod.snd x3)))):Int))) (bindD (C_spec_Project D x0 (Prod.fst (Prod.snd (List.getD (Prod.fst (Prod.snd (Prod.snd x3))) (Int.toNat x2) (ByteArray.empty,[],false,()))))) fun b↦bindD (C_spec_Project D x1 (Prod.fst (Prod.snd (List.getD (Prod.fst (Prod.snd (Prod.snd x3))) (Int.toNat x2) (ByteArray.empty,[],false,()))))) fun b_1↦br (Prod.fst (Prod.snd (Prod.snd (List.getD (Prod.fst (Prod.snd (Prod.snd x3))) (Int.toNat x2) (ByteArray.empty,[],false,()))))) (bindD (C_spec_l18Same D (Prod.fst (Prod.fst b)) (Prod.fst (Prod.fst b_1))) fun b_2↦br (Prod.fst (Prod.fst b_2)) (bindD (C_spec_l21Some D (Prod.fst (Prod.fst b))) fun b↦br (!Prod.fst (Prod.fst b)) (K0 true) (go x0 x1 (IntKind.wrap IntKind.i64 (x2+1)) x3)) (go x0 x1 (IntKind.wrap IntKind.i64 (x2+1)) x3)) (go x0 x1 (IntKind.wrap IntKind.i64 (x2+1)) x3)) none) K1
def spec_l21Clash_L0 (D:DX)(n:Nat) (K0:Bool→Option ((Bool×Unit)×Unit)) (K1:Option ((Bool×Unit)×Unit)):Nat→(tVals)→(tVals)→(Int)→(tSch)→Option ((Bool×Unit)×Unit) | 0=>(fun x0 x1 x2 x3=>none) | m+1=>(fun x0 x1 x2 x3=>spec_l21Clash_b0 D n (spec_l21Clash_L0 D n K0 K1 m) K0 K1 x0 x1 x2 x3)
def spec_l21Clash_x0_0 (D:DX)(n:Nat) (v0_0:Bool):Option ((Bool×Unit)×Unit):=some ((v0_0,()),())
def spec_l21Clash_x0_1 (D:DX)(n:Nat):Option ((Bool×Unit)×Unit):=some ((false,()),())
def spec_l21Clash_LP0 (D:DX)(n:Nat):(tVals)→(tVals)→(Int)→(tSch)→Option ((Bool×Unit)×Unit):=(fun x0 x1 x2 x3=>spec_l21Clash_L0 D n (fun v0_0=>spec_l21Clash_x0_0 D n v0_0) (spec_l21Clash_x0_1 D n) n x0 x1 x2 x3)
def spec_l21Clash_e (D:DX)(n:Nat) (lp0:tVals→tVals→Int→tSch→Option ((Bool×Unit)×Unit)) (a0:tSch) (a1:tVals) (a2:tVals):Option ((Bool×Unit)×Unit):=lp0 a1 a2 0 a0
def F_spec_l21Clash (D:DX)(n:Nat) (a0:tSch) (a1:tVals) (a2:tVals):Option ((Bool×Unit)×Unit):=spec_l21Clash_e D n (spec_l21Clash_LP0 D n) a0 a1 a2
def spec_l21Clash_Q0 (x0:tVals) (x1:tVals) (x2:Int) (x3:tSch):St:=stq 43 [(1,AV.val (Ty.sl yV) x0),(2,AV.val (Ty.sl yV) x1),(3,AV.addr 3 []),(7,avI x2)] [(3,Root.mk yS Mk.no x3 true)] 
def spec_l21Clash_Q0_0 (v0_0:Bool):St:=stq 43 [(6,AV.val Ty.bool v0_0)] [] 
def spec_l21Clash_Q0_1:St:=stq 43 [] [] 
theorem spec_l21Clash_SB0 (D:DX)(n:Nat) (m:Nat) (K:Ex→St→Option (Out ctx 114)) (x0:tVals) (x1:tVals) (x2:Int) (x3:tSch) :
  LQ funcTab D n 114 [.r,.l,.r,.l] (m+1) (spec_l21Clash_Q0 x0 x1 x2 x3) K=spec_l21Clash_b0 D n (fun x0 x1 x2 x3=>LQ funcTab D n 114 [.r,.l,.r,.l] m (spec_l21Clash_Q0 x0 x1 x2 x3) K) (fun v0_0=>K (Ex.ret) (spec_l21Clash_Q0_0 v0_0)) (K (Ex.exit 0) (spec_l21Clash_Q0_1)) x0 x1 x2 x3:=by kernel_rfl
theorem spec_l21Clash_EL0 (D:DX)(n:Nat) (K:Ex→St→Option (Out ctx 114)):∀ (m:Nat) (x0:tVals) (x1:tVals) (x2:Int) (x3:tSch),LQ funcTab D n 114 [.r,.l,.r,.l] m (spec_l21Clash_Q0 x0 x1 x2 x3) K=spec_l21Clash_L0 D n (fun v0_0=>K (Ex.ret) (spec_l21Clash_Q0_0 v0_0)) (K (Ex.exit 0) (spec_l21Clash_Q0_1)) m x0 x1 x2 x3
  | 0,x0,x1,x2,x3=>LQ_zero ..
  | m+1,x0,x1,x2,x3=>by
    have ih:(fun x0 x1 x2 x3=>LQ funcTab D n 114 [.r,.l,.r,.l] m (spec_l21Clash_Q0 x0 x1 x2 x3) K)=spec_l21Clash_L0 D n (fun v0_0=>K (Ex.ret) (spec_l21Clash_Q0_0 v0_0)) (K (Ex.exit 0) (spec_l21Clash_Q0_1)) m:=by funext x0 x1 x2 x3;exact spec_l21Clash_EL0 D n K m x0 x1 x2 x3
    rw[spec_l21Clash_SB0]
    rw[ih];rfl
theorem spec_l21Clash_X0_0 (D:DX)(n:Nat) (v0_0:Bool) :
  (CQ funcTab D n 114 [] [.r,.l,.r,.l] (lastK funcTab 114)) (Ex.ret) (spec_l21Clash_Q0_0 v0_0)=spec_l21Clash_x0_0 D n v0_0:=by kernel_rfl
theorem spec_l21Clash_X0_1 (D:DX)(n:Nat) :
  (CQ funcTab D n 114 [] [.r,.l,.r,.l] (lastK funcTab 114)) (Ex.exit 0) (spec_l21Clash_Q0_1)=spec_l21Clash_x0_1 D n:=by kernel_rfl
theorem spec_l21Clash_ELP0 (D:DX)(n:Nat) (x0:tVals) (x1:tVals) (x2:Int) (x3:tSch) :
  LQ funcTab D n 114 [.r,.l,.r,.l] n (spec_l21Clash_Q0 x0 x1 x2 x3) (CQ funcTab D n 114 [] [.r,.l,.r,.l] (lastK funcTab 114))=spec_l21Clash_LP0 D n x0 x1 x2 x3:=by
  rw[spec_l21Clash_EL0]
  simp only[spec_l21Clash_X0_0,spec_l21Clash_X0_1]
  rfl
theorem E_spec_l21Clash (D:DX)(n:Nat) (a0:tSch) (a1:tVals) (a2:tVals):rfC funcTab D n 114 (a0,(a1,(a2,())))=F_spec_l21Clash D n a0 a1 a2:=by
  have h:rfC funcTab D n 114 (a0,(a1,(a2,())))=spec_l21Clash_e D n (fun x0 x1 x2 x3=>LQ funcTab D n 114 [.r,.l,.r,.l] n (spec_l21Clash_Q0 x0 x1 x2 x3) (CQ funcTab D n 114 [] [.r,.l,.r,.l] (lastK funcTab 114))) a0 a1 a2:=by kernel_rfl
  rw[h]
  simp only[spec_l21Clash_ELP0]
  rfl

def impl_TupleLess_e (D:DX)(n:Nat) (a0:tVals) (a1:tVals):Option ((Bool×Unit)×Unit):=bindD (C_slices_CompareFunc_impl_Value_impl_Value_impl_Value_impl_Value D a0 a1 (Clo.mk 167 [])) fun b↦some ((decide (Prod.fst (Prod.fst b)<0),()),())
def F_impl_TupleLess (D:DX)(n:Nat) (a0:tVals) (a1:tVals):Option ((Bool×Unit)×Unit):=impl_TupleLess_e D n a0 a1
theorem E_impl_TupleLess (D:DX)(n:Nat) (a0:tVals) (a1:tVals):rfC funcTab D n 115 (a0,(a1,()))=F_impl_TupleLess D n a0 a1:=by kernel_rfl

def slices_ContainsFunc_impl_Value_impl_Valuex_e (D:DX)(n:Nat) (a1:Clo) (a0:tRows):Option ((Bool×Unit)×Unit):=bindD (C_slices_IndexFunc_impl_Value_impl_Value D a0 a1) fun b↦some ((decide (Prod.fst (Prod.fst b)≥0),()),())
def F_slices_ContainsFunc_impl_Value_impl_Valuex (D:DX)(n:Nat) (a0:tRows) (a1:Clo):Option ((Bool×Unit)×Unit):=slices_ContainsFunc_impl_Value_impl_Valuex_e D n a1 a0
theorem E_slices_ContainsFunc_impl_Value_impl_Valuex (D:DX)(n:Nat) (a0:tRows) (a1:Clo):rfC funcTab D n 116 (a0,(a1,()))=F_slices_ContainsFunc_impl_Value_impl_Valuex D n a0 a1:=by kernel_rfl

def impl_RelOk_1_e (D:DX)(n:Nat) (a0:tVals) (a1:(tSch)×tRows×Unit) (a2:tVals):Option ((Bool×Unit)×Unit):=bindD (C_impl_clash D (Prod.fst a1) a2 a0) fun b↦some ((Prod.fst (Prod.fst b),()),())
def F_impl_RelOk_1 (D:DX)(n:Nat) (a0:tVals) (a1:(tSch)×tRows×Unit) (a2:tVals):Option ((Bool×Unit)×Unit):=impl_RelOk_1_e D n a0 a1 a2
theorem E_impl_RelOk_1 (D:DX)(n:Nat) (a0:tVals) (a1:(tSch)×
  tRows×Unit) (a2:tVals):rfC funcTab D n 117 (a0,(a1,(a2,())))=F_impl_RelOk_1 D n a0 a1 a2:=by kernel_rfl

def impl_clash_e (D:DX)(n:Nat) (a0:tSch) (a1:tVals) (a2:tVals):Option ((Bool×Unit)×Unit):=bindD (C_slices_ContainsFunc_impl_Index_impl_Index D (Prod.fst (Prod.snd (Prod.snd a0))) (Clo.mk 168 [CapV.rptr (Ty.sl (Ty.pair (Ty.int IntKind.i64) (Ty.pair (Ty.int IntKind.i64) (Ty.pair Ty.str Ty.unit)))) a1,CapV.rptr (Ty.sl (Ty.pair (Ty.int IntKind.i64) (Ty.pair (Ty.int IntKind.i64) (Ty.pair Ty.str Ty.unit)))) a2])) fun b↦some ((Prod.fst (Prod.fst b),()),())
def F_impl_clash (D:DX)(n:Nat) (a0:tSch) (a1:tVals) (a2:tVals):Option ((Bool×Unit)×Unit):=impl_clash_e D n a0 a1 a2
theorem E_impl_clash (D:DX)(n:Nat) (a0:tSch) (a1:tVals) (a2:tVals):rfC funcTab D n 118 (a0,(a1,(a2,())))=F_impl_clash D n a0 a1 a2:=by kernel_rfl

def spec_l21DrawRight_b0 (D:DX)(n:Nat) (go:Int→List Int×Int×Int×Unit→(tSch)×tRows×Unit→(tSch)×tRows×Unit→Option ((((tSch)×tRows×Unit)×Unit)×tCur×Unit)) (K0:List Int×Int×Int×Unit→(tSch)×tRows×Unit→(tSch)×tRows×Unit→Option ((((tSch)×tRows×Unit)×Unit)×tCur×Unit)) (x0:Int) (x1:List Int×Int×Int×Unit) (x2:(tSch)×tRows×Unit) (x3:(tSch)×tRows×Unit):Option ((((tSch)×tRows×Unit)×Unit)×tCur×Unit):=bindD (C_spec_l1Below D x1 9) fun b↦br (decide (x0<Prod.fst (Prod.fst b))) (bindD (C_spec_l19DrawRow D (Prod.fst (Prod.snd b)) (Prod.fst x3)) fun b↦bindD (C_spec_l1Below D (Prod.fst (Prod.snd b)) 6) fun b_1↦br (decide (Prod.fst (Prod.fst b_1)=0)) (bindD (C_spec_KeyOfRow D (Prod.fst x3) (Prod.fst (Prod.fst b))) fun b↦bindD (C_spec_Remove D x3 (Prod.fst (Prod.fst b))) fun b↦go (IntKind.wrap IntKind.i64 (x0+1)) (Prod.fst (Prod.snd b_1)) x2 (Prod.fst (Prod.fst (Prod.fst b)),Prod.fst (Prod.snd (Prod.fst (Prod.fst b))),())) (br (decide (Prod.fst (Prod.fst b_1)=1)) (bindD (C_spec_Replace D x3 (Prod.fst (Prod.fst b))) fun b↦go (IntKind.wrap IntKind.i64 (x0+1)) (Prod.fst (Prod.snd b_1)) x2 (Prod.fst (Prod.fst (Prod.fst b)),Prod.fst (Prod.snd (Prod.fst (Prod.fst b))),())) (bindD (C_spec_Insert D x3 (Prod.fst (Prod.fst b))) fun b↦go (IntKind.wrap IntKind.i64 (x0+1)) (Prod.fst (Prod.snd b_1)) x2 (Prod.fst (Prod.fst (Prod.fst b)),Prod.fst (Prod.snd (Prod.fst (Prod.fst b))),())))) (K0 (Prod.fst (Prod.snd b)) x2 x3)
def spec_l21DrawRight_L0 (D:DX)(n:Nat) (K0:List Int×Int×Int×Unit→(tSch)×tRows×Unit→(tSch)×tRows×Unit→Option ((((tSch)×tRows×Unit)×Unit)×tCur×Unit)):Nat→(Int)→tCur→((tSch)×tRows×Unit)→((tSch)×tRows×Unit)→Option ((((tSch)×tRows×Unit)×Unit)×tCur×Unit) | 0=>(fun x0 x1 x2 x3=>none) | m+1=>(fun x0 x1 x2 x3=>spec_l21DrawRight_b0 D n (spec_l21DrawRight_L0 D n K0 m) K0 x0 x1 x2 x3)
def spec_l21DrawRight_x0_0 (D:DX)(n:Nat) (v0_0:List Int×Int×Int×Unit) (v0_1:(tSch)×tRows×Unit) (v0_2:(tSch)×tRows×Unit):Option ((((tSch)×tRows×Unit)×Unit)×tCur×Unit):=some ((v0_2,()),v0_0,())
def spec_l21DrawRight_LP0 (D:DX)(n:Nat):(Int)→tCur→((tSch)×tRows×Unit)→((tSch)×tRows×Unit)→Option ((((tSch)×tRows×Unit)×Unit)×tCur×Unit):=(fun x0 x1 x2 x3=>spec_l21DrawRight_L0 D n (fun v0_0 v0_1 v0_2=>spec_l21DrawRight_x0_0 D n v0_0 v0_1 v0_2) n x0 x1 x2 x3)
def spec_l21DrawRight_e (D:DX)(n:Nat) (lp0:Int→List Int×Int×Int×Unit→(tSch)×tRows×Unit→(tSch)×tRows×Unit→Option ((((tSch)×tRows×Unit)×Unit)×tCur×Unit)) (a0:List Int×Int×Int×Unit):Option ((((tSch)×tRows×Unit)×Unit)×tCur×Unit):=bindD (C_spec_l19DrawRight D a0) fun b↦bindD (C_spec_RelNew D (Prod.fst (Prod.fst b))) fun b_1↦lp0 0 (Prod.fst (Prod.snd b)) (([],[],[],()),[],()) (Prod.fst (Prod.fst (Prod.fst b_1)),Prod.fst (Prod.snd (Prod.fst (Prod.fst b_1))),())
def F_spec_l21DrawRight (D:DX)(n:Nat) (a0:List Int×Int×Int×Unit):Option ((((tSch)×tRows×Unit)×Unit)×tCur×Unit):=spec_l21DrawRight_e D n (spec_l21DrawRight_LP0 D n) a0
def spec_l21DrawRight_Q0 (x0:Int) (x1:List Int×Int×Int×Unit) (x2:(tSch)×tRows×Unit) (x3:(tSch)×tRows×Unit):St:=stq 51 [(0,AV.addr 0 []),(2,AV.addr 2 []),(3,AV.addr 3 []),(5,avI x0)] [(0,Root.mk (Ty.pair (Ty.sl (Ty.int IntKind.u8)) (Ty.pair yI (Ty.pair yI Ty.unit))) Mk.no x1 true),(2,Root.mk (Ty.pair yS (Ty.pair (Ty.sl (Ty.sl yV)) Ty.unit)) (Mk.pr (Mk.pr (Mk.own 0 (Mk.pr Mk.no (Mk.pr Mk.no (Mk.pr Mk.no Mk.no)))) (Mk.pr (Mk.own 0 Mk.no) (Mk.pr (Mk.own 0 (Mk.pr Mk.no (Mk.pr (Mk.own 0 Mk.no) (Mk.pr Mk.no Mk.no)))) Mk.no))) (Mk.pr (Mk.own 0 (Mk.own 0 (Mk.pr Mk.no (Mk.pr Mk.no (Mk.pr Mk.no Mk.no))))) Mk.no)) x2 true),(3,Root.mk (Ty.pair yS (Ty.pair (Ty.sl (Ty.sl yV)) Ty.unit)) Mk.no x3 true)] 
def spec_l21DrawRight_Q0_0 (v0_0:List Int×Int×Int×Unit) (v0_1:(tSch)×tRows×Unit) (v0_2:(tSch)×tRows×Unit):St:=stq 51 [(0,AV.addr 0 []),(2,AV.addr 2 []),(3,AV.addr 3 [])] [(0,Root.mk (Ty.pair (Ty.sl (Ty.int IntKind.u8)) (Ty.pair yI (Ty.pair yI Ty.unit))) Mk.no v0_0 true),(2,Root.mk (Ty.pair yS (Ty.pair (Ty.sl (Ty.sl yV)) Ty.unit)) (Mk.pr (Mk.pr (Mk.own 0 (Mk.pr Mk.no (Mk.pr Mk.no (Mk.pr Mk.no Mk.no)))) (Mk.pr (Mk.own 0 Mk.no) (Mk.pr (Mk.own 0 (Mk.pr Mk.no (Mk.pr (Mk.own 0 Mk.no) (Mk.pr Mk.no Mk.no)))) Mk.no))) (Mk.pr (Mk.own 0 (Mk.own 0 (Mk.pr Mk.no (Mk.pr Mk.no (Mk.pr Mk.no Mk.no))))) Mk.no)) v0_1 true),(3,Root.mk (Ty.pair yS (Ty.pair (Ty.sl (Ty.sl yV)) Ty.unit)) Mk.no v0_2 true)] 
theorem spec_l21DrawRight_SB0 (D:DX)(n:Nat) (m:Nat) (K:Ex→St→Option (Out ctx 119)) (x0:Int) (x1:List Int×Int×Int×Unit) (x2:(tSch)×
  tRows×Unit) (x3:(tSch)×
  tRows×Unit) :
  LQ funcTab D n 119 [.r,.r,.l,.r,.l] (m+1) (spec_l21DrawRight_Q0 x0 x1 x2 x3) K=spec_l21DrawRight_b0 D n (fun x0 x1 x2 x3=>LQ funcTab D n 119 [.r,.r,.l,.r,.l] m (spec_l21DrawRight_Q0 x0 x1 x2 x3) K) (fun v0_0 v0_1 v0_2=>K (Ex.exit 0) (spec_l21DrawRight_Q0_0 v0_0 v0_1 v0_2)) x0 x1 x2 x3:=by kernel_rfl
theorem spec_l21DrawRight_EL0 (D:DX)(n:Nat) (K:Ex→St→Option (Out ctx 119)):∀ (m:Nat) (x0:Int) (x1:List Int×Int×Int×Unit) (x2:(tSch)×
  tRows×Unit) (x3:(tSch)×
  tRows×Unit),LQ funcTab D n 119 [.r,.r,.l,.r,.l] m (spec_l21DrawRight_Q0 x0 x1 x2 x3) K=spec_l21DrawRight_L0 D n (fun v0_0 v0_1 v0_2=>K (Ex.exit 0) (spec_l21DrawRight_Q0_0 v0_0 v0_1 v0_2)) m x0 x1 x2 x3
  | 0,x0,x1,x2,x3=>LQ_zero ..
  | m+1,x0,x1,x2,x3=>by
    have ih:(fun x0 x1 x2 x3=>LQ funcTab D n 119 [.r,.r,.l,.r,.l] m (spec_l21DrawRight_Q0 x0 x1 x2 x3) K)=spec_l21DrawRight_L0 D n (fun v0_0 v0_1 v0_2=>K (Ex.exit 0) (spec_l21DrawRight_Q0_0 v0_0 v0_1 v0_2)) m:=by funext x0 x1 x2 x3;exact spec_l21DrawRight_EL0 D n K m x0 x1 x2 x3
    rw[spec_l21DrawRight_SB0]
    rw[ih];rfl
theorem spec_l21DrawRight_X0_0 (D:DX)(n:Nat) (v0_0:List Int×Int×Int×Unit) (v0_1:(tSch)×
  tRows×Unit) (v0_2:(tSch)×
  tRows×Unit) :
  (CQ funcTab D n 119 [] [.r,.r,.l,.r,.l] (lastK funcTab 119)) (Ex.exit 0) (spec_l21DrawRight_Q0_0 v0_0 v0_1 v0_2)=spec_l21DrawRight_x0_0 D n v0_0 v0_1 v0_2:=by kernel_rfl
theorem spec_l21DrawRight_ELP0 (D:DX)(n:Nat) (x0:Int) (x1:List Int×Int×Int×Unit) (x2:(tSch)×
  tRows×Unit) (x3:(tSch)×
  tRows×Unit) :
  LQ funcTab D n 119 [.r,.r,.l,.r,.l] n (spec_l21DrawRight_Q0 x0 x1 x2 x3) (CQ funcTab D n 119 [] [.r,.r,.l,.r,.l] (lastK funcTab 119))=spec_l21DrawRight_LP0 D n x0 x1 x2 x3:=by
  rw[spec_l21DrawRight_EL0]
  simp only[spec_l21DrawRight_X0_0]
  rfl
theorem E_spec_l21DrawRight (D:DX)(n:Nat) (a0:List Int×Int×Int×Unit):rfC funcTab D n 119 (a0,())=F_spec_l21DrawRight D n a0:=by
  have h:rfC funcTab D n 119 (a0,())=spec_l21DrawRight_e D n (fun x0 x1 x2 x3=>LQ funcTab D n 119 [.r,.r,.l,.r,.l] n (spec_l21DrawRight_Q0 x0 x1 x2 x3) (CQ funcTab D n 119 [] [.r,.r,.l,.r,.l] (lastK funcTab 119))) a0:=by kernel_rfl
  rw[h]
  simp only[spec_l21DrawRight_ELP0]
  rfl

def spec_l21DrawRow_e (D:DX)(n:Nat) (a0:List Int×Int×Int×Unit) (a1:(tSch)×tRows×Unit):Option ((tVals×Unit)×tCur×Unit):=bindD (C_spec_l19DrawRow D a0 (Prod.fst a1)) fun b↦br (bif decide ((↑(List.length (Prod.fst (Prod.snd a1))):Int)>0) then decide ((↑(List.length (Prod.fst (Prod.fst b))):Int)>0) else false) (bindD (C_spec_l1Once D (Prod.fst (Prod.snd b)) 2) fun b_1↦br (Prod.fst (Prod.fst b_1)) (bindD (C_spec_l1Below D (Prod.fst (Prod.snd b_1)) (↑(List.length (Prod.fst (Prod.snd a1))):Int)) fun b_2↦br (decide (0≤Prod.fst (Prod.fst b_2))&&decide (Prod.fst (Prod.fst b_2)<(↑(List.length (Prod.fst (Prod.snd a1))):Int))) (br (decide ((↑(List.length (List.getD (Prod.fst (Prod.snd a1)) (Int.toNat (Prod.fst (Prod.fst b_2))) [])):Int)>0)) (br (decide (0≤0)&&decide (0<(↑(List.length (List.getD (Prod.fst (Prod.snd a1)) (Int.toNat (Prod.fst (Prod.fst b_2))) [])):Int))) (br (decide (0≤0)&&decide (0<(↑(List.length (Prod.fst (Prod.fst b))):Int))) (some ((List.set (Prod.fst (Prod.fst b)) 0 (List.getD (List.getD (Prod.fst (Prod.snd a1)) (Int.toNat (Prod.fst (Prod.fst b_2))) []) (Int.toNat 0) (0,0,ByteArray.empty,())),()),Prod.fst (Prod.snd b_2),())) none) none) (some ((Prod.fst (Prod.fst b),()),Prod.fst (Prod.snd b_2),()))) none) (some ((Prod.fst (Prod.fst b),()),Prod.fst (Prod.snd b_1),()))) (some ((Prod.fst (Prod.fst b),()),Prod.fst (Prod.snd b),()))
def F_spec_l21DrawRow (D:DX)(n:Nat) (a0:List Int×Int×Int×Unit) (a1:(tSch)×tRows×Unit):Option ((tVals×Unit)×tCur×Unit):=spec_l21DrawRow_e D n a0 a1
theorem E_spec_l21DrawRow (D:DX)(n:Nat) (a0:List Int×Int×Int×Unit) (a1:(tSch)×
  tRows×Unit):rfC funcTab D n 120 (a0,(a1,()))=F_spec_l21DrawRow D n a0 a1:=by kernel_rfl

def impl_copyRelation_e (D:DX)(n:Nat) (a0:(tSch)×tRows×Unit):Option ((((tSch)×tRows×Unit)×Unit)×Unit):=bindD (C_impl_copySchema D (Prod.fst a0)) fun b↦bindD (C_impl_copyTuples D (Prod.fst (Prod.snd a0))) fun b_1↦some ((((Prod.fst (Prod.fst (Prod.fst b)),Prod.fst (Prod.snd (Prod.fst (Prod.fst b))),Prod.fst (Prod.snd (Prod.snd (Prod.fst (Prod.fst b)))),()),Prod.fst (Prod.fst b_1),()),()),())
def F_impl_copyRelation (D:DX)(n:Nat) (a0:(tSch)×tRows×Unit):Option ((((tSch)×tRows×Unit)×Unit)×Unit):=impl_copyRelation_e D n a0
theorem E_impl_copyRelation (D:DX)(n:Nat) (a0:(tSch)×
  tRows×Unit):rfC funcTab D n 121 (a0,())=F_impl_copyRelation D n a0:=by kernel_rfl

def impl_keyAt_e (D:DX)(n:Nat) (a0:(tSch)×tRows×Unit) (a1:tVals):Option ((Int×Unit)×Unit):=bindD (C_slices_IndexFunc_impl_Value_impl_Value D (Prod.fst (Prod.snd a0)) (Clo.mk 173 [CapV.rptr (Ty.pair (Ty.pair (Ty.sl (Ty.pair Ty.str (Ty.pair (Ty.int IntKind.i64) (Ty.pair Ty.bool Ty.unit)))) (Ty.pair (Ty.sl (Ty.int IntKind.i64)) (Ty.pair (Ty.sl (Ty.pair Ty.str (Ty.pair (Ty.sl (Ty.int IntKind.i64)) (Ty.pair Ty.bool Ty.unit)))) Ty.unit))) (Ty.pair (Ty.sl (Ty.sl (Ty.pair (Ty.int IntKind.i64) (Ty.pair (Ty.int IntKind.i64) (Ty.pair Ty.str Ty.unit))))) Ty.unit)) a0,CapV.rptr (Ty.sl (Ty.pair (Ty.int IntKind.i64) (Ty.pair (Ty.int IntKind.i64) (Ty.pair Ty.str Ty.unit)))) a1])) fun b↦some ((Prod.fst (Prod.fst b),()),())
def F_impl_keyAt (D:DX)(n:Nat) (a0:(tSch)×tRows×Unit) (a1:tVals):Option ((Int×Unit)×Unit):=impl_keyAt_e D n a0 a1
theorem E_impl_keyAt (D:DX)(n:Nat) (a0:(tSch)×
  tRows×Unit) (a1:tVals):rfC funcTab D n 122 (a0,(a1,()))=F_impl_keyAt D n a0 a1:=by kernel_rfl

def slices_Clone_impl_Value_impl_Value_e (D:DX)(n:Nat) (a0:tVals):Option ((tVals×Unit)×Unit):=br (decide (Int.toNat (↑(List.length a0):Int)=0)) (both (some (([],()),())) (br (decide (0+List.length a0≤bound)) (some (([]++a0,()),())) none)) (br (decide (0+List.length a0≤bound)) (some (([]++a0,()),())) none)
def F_slices_Clone_impl_Value_impl_Value (D:DX)(n:Nat) (a0:tVals):Option ((tVals×Unit)×Unit):=slices_Clone_impl_Value_impl_Value_e D n a0
theorem E_slices_Clone_impl_Value_impl_Value (D:DX)(n:Nat) (a0:tVals):rfC funcTab D n 123 (a0,())=F_slices_Clone_impl_Value_impl_Value D n a0:=by kernel_rfl

def spec_l21Copy_e (D:DX)(n:Nat) (a0:(tSch)×tRows×Unit):Option ((((tSch)×tRows×Unit)×Unit)×Unit):=bindD (C_spec_l19Copy D (Prod.fst a0)) fun b↦bindD (C_spec_l21Rows D (Prod.fst (Prod.snd a0))) fun b_1↦some ((((Prod.fst (Prod.fst (Prod.fst b)),Prod.fst (Prod.snd (Prod.fst (Prod.fst b))),Prod.fst (Prod.snd (Prod.snd (Prod.fst (Prod.fst b)))),()),Prod.fst (Prod.fst b_1),()),()),())
def F_spec_l21Copy (D:DX)(n:Nat) (a0:(tSch)×tRows×Unit):Option ((((tSch)×tRows×Unit)×Unit)×Unit):=spec_l21Copy_e D n a0
theorem E_spec_l21Copy (D:DX)(n:Nat) (a0:(tSch)×
  tRows×Unit):rfC funcTab D n 124 (a0,())=F_spec_l21Copy D n a0:=by kernel_rfl

def spec_l21At_b0 (D:DX)(n:Nat) (go:tVals→Int→(tSch)×tRows×Unit→Option ((Int×Unit)×Unit)) (K0:Int→Option ((Int×Unit)×Unit)) (K1:Option ((Int×Unit)×Unit)) (x0:tVals) (x1:Int) (x2:(tSch)×tRows×Unit):Option ((Int×Unit)×Unit):=br (decide (x1<(↑(List.length (Prod.fst (Prod.snd x2))):Int))) (br (decide (0≤x1)&&decide (x1<(↑(List.length (Prod.fst (Prod.snd x2))):Int))) (bindD (C_spec_KeyOfRow D (Prod.fst x2) (List.getD (Prod.fst (Prod.snd x2)) (Int.toNat x1) [])) fun b↦bindD (C_spec_l18Same D (Prod.fst (Prod.fst b)) x0) fun b↦br (Prod.fst (Prod.fst b)) (K0 x1) (go x0 (IntKind.wrap IntKind.i64 (x1+1)) x2)) none) K1
def spec_l21At_L0 (D:DX)(n:Nat) (K0:Int→Option ((Int×Unit)×Unit)) (K1:Option ((Int×Unit)×Unit)):Nat→(tVals)→(Int)→((tSch)×tRows×Unit)→Option ((Int×Unit)×Unit) | 0=>(fun x0 x1 x2=>none) | m+1=>(fun x0 x1 x2=>spec_l21At_b0 D n (spec_l21At_L0 D n K0 K1 m) K0 K1 x0 x1 x2)
def spec_l21At_x0_0 (D:DX)(n:Nat) (v0_0:Int):Option ((Int×Unit)×Unit):=some ((v0_0,()),())
def spec_l21At_x0_1 (D:DX)(n:Nat):Option ((Int×Unit)×Unit):=some ((-1,()),())
def spec_l21At_LP0 (D:DX)(n:Nat):(tVals)→(Int)→((tSch)×tRows×Unit)→Option ((Int×Unit)×Unit):=(fun x0 x1 x2=>spec_l21At_L0 D n (fun v0_0=>spec_l21At_x0_0 D n v0_0) (spec_l21At_x0_1 D n) n x0 x1 x2)
def spec_l21At_e (D:DX)(n:Nat) (lp0:tVals→Int→(tSch)×tRows×Unit→Option ((Int×Unit)×Unit)) (a0:(tSch)×tRows×Unit) (a1:tVals):Option ((Int×Unit)×Unit):=lp0 a1 0 a0
def F_spec_l21At (D:DX)(n:Nat) (a0:(tSch)×tRows×Unit) (a1:tVals):Option ((Int×Unit)×Unit):=spec_l21At_e D n (spec_l21At_LP0 D n) a0 a1
def spec_l21At_Q0 (x0:tVals) (x1:Int) (x2:(tSch)×tRows×Unit):St:=stq 24 [(1,AV.val (Ty.sl yV) x0),(2,AV.addr 2 []),(5,avI x1)] [(2,Root.mk (Ty.pair yS (Ty.pair (Ty.sl (Ty.sl yV)) Ty.unit)) Mk.no x2 true)] 
def spec_l21At_Q0_0 (v0_0:Int):St:=stq 24 [(4,avI v0_0)] [] 
def spec_l21At_Q0_1:St:=stq 24 [] [] 
theorem spec_l21At_SB0 (D:DX)(n:Nat) (m:Nat) (K:Ex→St→Option (Out ctx 125)) (x0:tVals) (x1:Int) (x2:(tSch)×
  tRows×Unit) :
  LQ funcTab D n 125 [.r,.l,.r,.l] (m+1) (spec_l21At_Q0 x0 x1 x2) K=spec_l21At_b0 D n (fun x0 x1 x2=>LQ funcTab D n 125 [.r,.l,.r,.l] m (spec_l21At_Q0 x0 x1 x2) K) (fun v0_0=>K (Ex.ret) (spec_l21At_Q0_0 v0_0)) (K (Ex.exit 0) (spec_l21At_Q0_1)) x0 x1 x2:=by kernel_rfl
theorem spec_l21At_EL0 (D:DX)(n:Nat) (K:Ex→St→Option (Out ctx 125)):∀ (m:Nat) (x0:tVals) (x1:Int) (x2:(tSch)×
  tRows×Unit),LQ funcTab D n 125 [.r,.l,.r,.l] m (spec_l21At_Q0 x0 x1 x2) K=spec_l21At_L0 D n (fun v0_0=>K (Ex.ret) (spec_l21At_Q0_0 v0_0)) (K (Ex.exit 0) (spec_l21At_Q0_1)) m x0 x1 x2
  | 0,x0,x1,x2=>LQ_zero ..
  | m+1,x0,x1,x2=>by
    have ih:(fun x0 x1 x2=>LQ funcTab D n 125 [.r,.l,.r,.l] m (spec_l21At_Q0 x0 x1 x2) K)=spec_l21At_L0 D n (fun v0_0=>K (Ex.ret) (spec_l21At_Q0_0 v0_0)) (K (Ex.exit 0) (spec_l21At_Q0_1)) m:=by funext x0 x1 x2;exact spec_l21At_EL0 D n K m x0 x1 x2
    rw[spec_l21At_SB0]
    rw[ih];rfl
theorem spec_l21At_X0_0 (D:DX)(n:Nat) (v0_0:Int) :
  (CQ funcTab D n 125 [] [.r,.l,.r,.l] (lastK funcTab 125)) (Ex.ret) (spec_l21At_Q0_0 v0_0)=spec_l21At_x0_0 D n v0_0:=by kernel_rfl
theorem spec_l21At_X0_1 (D:DX)(n:Nat) :
  (CQ funcTab D n 125 [] [.r,.l,.r,.l] (lastK funcTab 125)) (Ex.exit 0) (spec_l21At_Q0_1)=spec_l21At_x0_1 D n:=by kernel_rfl
theorem spec_l21At_ELP0 (D:DX)(n:Nat) (x0:tVals) (x1:Int) (x2:(tSch)×
  tRows×Unit) :
  LQ funcTab D n 125 [.r,.l,.r,.l] n (spec_l21At_Q0 x0 x1 x2) (CQ funcTab D n 125 [] [.r,.l,.r,.l] (lastK funcTab 125))=spec_l21At_LP0 D n x0 x1 x2:=by
  rw[spec_l21At_EL0]
  simp only[spec_l21At_X0_0,spec_l21At_X0_1]
  rfl
theorem E_spec_l21At (D:DX)(n:Nat) (a0:(tSch)×
  tRows×Unit) (a1:tVals):rfC funcTab D n 125 (a0,(a1,()))=F_spec_l21At D n a0 a1:=by
  have h:rfC funcTab D n 125 (a0,(a1,()))=spec_l21At_e D n (fun x0 x1 x2=>LQ funcTab D n 125 [.r,.l,.r,.l] n (spec_l21At_Q0 x0 x1 x2) (CQ funcTab D n 125 [] [.r,.l,.r,.l] (lastK funcTab 125))) a0 a1:=by kernel_rfl
  rw[h]
  simp only[spec_l21At_ELP0]
  rfl

def spec_l21Others_b0 (D:DX)(n:Nat) (go:tVals→Int→Int→(tSch)×tRows×Unit→Option ((Bool×Unit)×Unit)) (K0:Bool→Option ((Bool×Unit)×Unit)) (K1:Option ((Bool×Unit)×Unit)) (x0:tVals) (x1:Int) (x2:Int) (x3:(tSch)×tRows×Unit):Option ((Bool×Unit)×Unit):=br (decide (x2<(↑(List.length (Prod.fst (Prod.snd x3))):Int))) (br (x2 != x1) (br (decide (0≤x2)&&decide (x2<(↑(List.length (Prod.fst (Prod.snd x3))):Int))) (bindD (C_spec_l21Clash D (Prod.fst x3) (List.getD (Prod.fst (Prod.snd x3)) (Int.toNat x2) []) x0) fun b↦br (Prod.fst (Prod.fst b)) (K0 true) (go x0 x1 (IntKind.wrap IntKind.i64 (x2+1)) x3)) none) (go x0 x1 (IntKind.wrap IntKind.i64 (x2+1)) x3)) K1
def spec_l21Others_L0 (D:DX)(n:Nat) (K0:Bool→Option ((Bool×Unit)×Unit)) (K1:Option ((Bool×Unit)×Unit)):Nat→(tVals)→(Int)→(Int)→((tSch)×tRows×Unit)→Option ((Bool×Unit)×Unit) | 0=>(fun x0 x1 x2 x3=>none) | m+1=>(fun x0 x1 x2 x3=>spec_l21Others_b0 D n (spec_l21Others_L0 D n K0 K1 m) K0 K1 x0 x1 x2 x3)
def spec_l21Others_x0_0 (D:DX)(n:Nat) (v0_0:Bool):Option ((Bool×Unit)×Unit):=some ((v0_0,()),())
def spec_l21Others_x0_1 (D:DX)(n:Nat):Option ((Bool×Unit)×Unit):=some ((false,()),())
def spec_l21Others_LP0 (D:DX)(n:Nat):(tVals)→(Int)→(Int)→((tSch)×tRows×Unit)→Option ((Bool×Unit)×Unit):=(fun x0 x1 x2 x3=>spec_l21Others_L0 D n (fun v0_0=>spec_l21Others_x0_0 D n v0_0) (spec_l21Others_x0_1 D n) n x0 x1 x2 x3)
def spec_l21Others_e (D:DX)(n:Nat) (lp0:tVals→Int→Int→(tSch)×tRows×Unit→Option ((Bool×Unit)×Unit)) (a0:(tSch)×tRows×Unit) (a1:tVals) (a2:Int):Option ((Bool×Unit)×Unit):=lp0 a1 a2 0 a0
def F_spec_l21Others (D:DX)(n:Nat) (a0:(tSch)×tRows×Unit) (a1:tVals) (a2:Int):Option ((Bool×Unit)×Unit):=spec_l21Others_e D n (spec_l21Others_LP0 D n) a0 a1 a2
def spec_l21Others_Q0 (x0:tVals) (x1:Int) (x2:Int) (x3:(tSch)×tRows×Unit):St:=stq 29 [(1,AV.val (Ty.sl yV) x0),(2,avI x1),(3,AV.addr 3 []),(7,avI x2)] [(3,Root.mk (Ty.pair yS (Ty.pair (Ty.sl (Ty.sl yV)) Ty.unit)) Mk.no x3 true)] 
def spec_l21Others_Q0_0 (v0_0:Bool):St:=stq 29 [(6,AV.val Ty.bool v0_0)] [] 
def spec_l21Others_Q0_1:St:=stq 29 [] [] 
theorem spec_l21Others_SB0 (D:DX)(n:Nat) (m:Nat) (K:Ex→St→Option (Out ctx 126)) (x0:tVals) (x1:Int) (x2:Int) (x3:(tSch)×
  tRows×Unit) :
  LQ funcTab D n 126 [.r,.l,.r,.l] (m+1) (spec_l21Others_Q0 x0 x1 x2 x3) K=spec_l21Others_b0 D n (fun x0 x1 x2 x3=>LQ funcTab D n 126 [.r,.l,.r,.l] m (spec_l21Others_Q0 x0 x1 x2 x3) K) (fun v0_0=>K (Ex.ret) (spec_l21Others_Q0_0 v0_0)) (K (Ex.exit 0) (spec_l21Others_Q0_1)) x0 x1 x2 x3:=by kernel_rfl
theorem spec_l21Others_EL0 (D:DX)(n:Nat) (K:Ex→St→Option (Out ctx 126)):∀ (m:Nat) (x0:tVals) (x1:Int) (x2:Int) (x3:(tSch)×
  tRows×Unit),LQ funcTab D n 126 [.r,.l,.r,.l] m (spec_l21Others_Q0 x0 x1 x2 x3) K=spec_l21Others_L0 D n (fun v0_0=>K (Ex.ret) (spec_l21Others_Q0_0 v0_0)) (K (Ex.exit 0) (spec_l21Others_Q0_1)) m x0 x1 x2 x3
  | 0,x0,x1,x2,x3=>LQ_zero ..
  | m+1,x0,x1,x2,x3=>by
    have ih:(fun x0 x1 x2 x3=>LQ funcTab D n 126 [.r,.l,.r,.l] m (spec_l21Others_Q0 x0 x1 x2 x3) K)=spec_l21Others_L0 D n (fun v0_0=>K (Ex.ret) (spec_l21Others_Q0_0 v0_0)) (K (Ex.exit 0) (spec_l21Others_Q0_1)) m:=by funext x0 x1 x2 x3;exact spec_l21Others_EL0 D n K m x0 x1 x2 x3
    rw[spec_l21Others_SB0]
    rw[ih];rfl
theorem spec_l21Others_X0_0 (D:DX)(n:Nat) (v0_0:Bool) :
  (CQ funcTab D n 126 [] [.r,.l,.r,.l] (lastK funcTab 126)) (Ex.ret) (spec_l21Others_Q0_0 v0_0)=spec_l21Others_x0_0 D n v0_0:=by kernel_rfl
theorem spec_l21Others_X0_1 (D:DX)(n:Nat) :
  (CQ funcTab D n 126 [] [.r,.l,.r,.l] (lastK funcTab 126)) (Ex.exit 0) (spec_l21Others_Q0_1)=spec_l21Others_x0_1 D n:=by kernel_rfl
theorem spec_l21Others_ELP0 (D:DX)(n:Nat) (x0:tVals) (x1:Int) (x2:Int) (x3:(tSch)×
  tRows×Unit) :
  LQ funcTab D n 126 [.r,.l,.r,.l] n (spec_l21Others_Q0 x0 x1 x2 x3) (CQ funcTab D n 126 [] [.r,.l,.r,.l] (lastK funcTab 126))=spec_l21Others_LP0 D n x0 x1 x2 x3:=by
  rw[spec_l21Others_EL0]
  simp only[spec_l21Others_X0_0,spec_l21Others_X0_1]
  rfl
theorem E_spec_l21Others (D:DX)(n:Nat) (a0:(tSch)×
  tRows×Unit) (a1:tVals) (a2:Int):rfC funcTab D n 126 (a0,(a1,(a2,())))=F_spec_l21Others D n a0 a1 a2:=by
  have h:rfC funcTab D n 126 (a0,(a1,(a2,())))=spec_l21Others_e D n (fun x0 x1 x2 x3=>LQ funcTab D n 126 [.r,.l,.r,.l] n (spec_l21Others_Q0 x0 x1 x2 x3) (CQ funcTab D n 126 [] [.r,.l,.r,.l] (lastK funcTab 126))) a0 a1 a2:=by kernel_rfl
  rw[h]
  simp only[spec_l21Others_ELP0]
  rfl



def impl_Insert_1_e (D:DX)(n:Nat) (a0:tVals) (a1:(tSch)×tRows×Unit) (a2:tVals):Option ((Bool×Unit)×Unit):=bindD (C_impl_clash D (Prod.fst a1) a2 a0) fun b↦some ((Prod.fst (Prod.fst b),()),())
def F_impl_Insert_1 (D:DX)(n:Nat) (a0:tVals) (a1:(tSch)×tRows×Unit) (a2:tVals):Option ((Bool×Unit)×Unit):=impl_Insert_1_e D n a0 a1 a2
theorem E_impl_Insert_1 (D:DX)(n:Nat) (a0:tVals) (a1:(tSch)×
  tRows×Unit) (a2:tVals):rfC funcTab D n 129 (a0,(a1,(a2,())))=F_impl_Insert_1 D n a0 a1 a2:=by kernel_rfl

def slices_IndexFunc_impl_Value_impl_Value_b0 (D:DX)(n:Nat) (a1:Clo) (go:tRows→Int→Int→Option ((Int×Unit)×Unit)) (K0:Int→Option ((Int×Unit)×Unit)) (K1:Option ((Int×Unit)×Unit)) (x0:tRows) (x1:Int) (x2:Int):Option ((Int×Unit)×Unit):=br (decide (x2<x1)) (br (decide (0≤x2)&&decide (x2<(↑(List.length x0):Int))) (bindD (applyClo ctx D a1 [CapV.val (Ty.sl (Ty.pair (Ty.int IntKind.i64) (Ty.pair (Ty.int IntKind.i64) (Ty.pair Ty.str Ty.unit)))) (List.getD x0 (Int.toNat x2) [])] Ty.bool) fun b↦br b (K0 x2) (go x0 x1 (IntKind.wrap IntKind.i64 (x2+1)))) none) K1
def slices_IndexFunc_impl_Value_impl_Value_L0 (D:DX)(n:Nat) (a1:Clo) (K0:Int→Option ((Int×Unit)×Unit)) (K1:Option ((Int×Unit)×Unit)):Nat→(tRows)→(Int)→(Int)→Option ((Int×Unit)×Unit) | 0=>(fun x0 x1 x2=>none) | m+1=>(fun x0 x1 x2=>slices_IndexFunc_impl_Value_impl_Value_b0 D n a1 (slices_IndexFunc_impl_Value_impl_Value_L0 D n a1 K0 K1 m) K0 K1 x0 x1 x2)
def slices_IndexFunc_impl_Value_impl_Value_x0_0 (D:DX)(n:Nat) (a1:Clo) (v0_0:Int):Option ((Int×Unit)×Unit):=some ((v0_0,()),())
def slices_IndexFunc_impl_Value_impl_Value_x0_1 (D:DX)(n:Nat) (a1:Clo):Option ((Int×Unit)×Unit):=some ((-1,()),())
def slices_IndexFunc_impl_Value_impl_Value_LP0 (D:DX)(n:Nat) (a1:Clo):(tRows)→(Int)→(Int)→Option ((Int×Unit)×Unit):=(fun x0 x1 x2=>slices_IndexFunc_impl_Value_impl_Value_L0 D n a1 (fun v0_0=>slices_IndexFunc_impl_Value_impl_Value_x0_0 D n a1 v0_0) (slices_IndexFunc_impl_Value_impl_Value_x0_1 D n a1) n x0 x1 x2)
def slices_IndexFunc_impl_Value_impl_Value_e (D:DX)(n:Nat) (a1:Clo) (lp0:tRows→Int→Int→Option ((Int×Unit)×Unit)) (a0:tRows):Option ((Int×Unit)×Unit):=lp0 a0 (↑(List.length a0):Int) 0
def F_slices_IndexFunc_impl_Value_impl_Value (D:DX)(n:Nat) (a0:tRows) (a1:Clo):Option ((Int×Unit)×Unit):=slices_IndexFunc_impl_Value_impl_Value_e D n a1 (slices_IndexFunc_impl_Value_impl_Value_LP0 D n a1) a0
def slices_IndexFunc_impl_Value_impl_Value_Q0 (a1:Clo) (x0:tRows) (x1:Int) (x2:Int):St:=stq 19 [(0,AV.val (Ty.sl (Ty.sl yV)) x0),(1,AV.cloV a1),(7,avI x1),(8,avI x2)] [] 
def slices_IndexFunc_impl_Value_impl_Value_Q0_0 (a1:Clo) (v0_0:Int):St:=stq 19 [(4,avI v0_0)] [] 
def slices_IndexFunc_impl_Value_impl_Value_Q0_1 (a1:Clo):St:=stq 19 [] [] 
theorem slices_IndexFunc_impl_Value_impl_Value_SB0 (D:DX)(n:Nat) (a1:Clo) (m:Nat) (K:Ex→St→Option (Out ctx 130)) (x0:tRows) (x1:Int) (x2:Int) :
  LQ funcTab D n 130 [.r,.l,.r,.l] (m+1) (slices_IndexFunc_impl_Value_impl_Value_Q0 a1 x0 x1 x2) K=slices_IndexFunc_impl_Value_impl_Value_b0 D n a1 (fun x0 x1 x2=>LQ funcTab D n 130 [.r,.l,.r,.l] m (slices_IndexFunc_impl_Value_impl_Value_Q0 a1 x0 x1 x2) K) (fun v0_0=>K (Ex.ret) (slices_IndexFunc_impl_Value_impl_Value_Q0_0 a1 v0_0)) (K (Ex.exit 0) (slices_IndexFunc_impl_Value_impl_Value_Q0_1 a1)) x0 x1 x2:=by kernel_rfl
theorem slices_IndexFunc_impl_Value_impl_Value_EL0 (D:DX)(n:Nat) (a1:Clo) (K:Ex→St→Option (Out ctx 130)):∀ (m:Nat) (x0:tRows) (x1:Int) (x2:Int),LQ funcTab D n 130 [.r,.l,.r,.l] m (slices_IndexFunc_impl_Value_impl_Value_Q0 a1 x0 x1 x2) K=slices_IndexFunc_impl_Value_impl_Value_L0 D n a1 (fun v0_0=>K (Ex.ret) (slices_IndexFunc_impl_Value_impl_Value_Q0_0 a1 v0_0)) (K (Ex.exit 0) (slices_IndexFunc_impl_Value_impl_Value_Q0_1 a1)) m x0 x1 x2
  | 0,x0,x1,x2=>LQ_zero ..
  | m+1,x0,x1,x2=>by
    have ih:(fun x0 x1 x2=>LQ funcTab D n 130 [.r,.l,.r,.l] m (slices_IndexFunc_impl_Value_impl_Value_Q0 a1 x0 x1 x2) K)=slices_IndexFunc_impl_Value_impl_Value_L0 D n a1 (fun v0_0=>K (Ex.ret) (slices_IndexFunc_impl_Value_impl_Value_Q0_0 a1 v0_0)) (K (Ex.exit 0) (slices_IndexFunc_impl_Value_impl_Value_Q0_1 a1)) m:=by funext x0 x1 x2;exact slices_IndexFunc_impl_Value_impl_Value_EL0 D n a1 K m x0 x1 x2
    rw[slices_IndexFunc_impl_Value_impl_Value_SB0]
    rw[ih];rfl
theorem slices_IndexFunc_impl_Value_impl_Value_X0_0 (D:DX)(n:Nat) (a1:Clo) (v0_0:Int) :
  (CQ funcTab D n 130 [] [.r,.l,.r,.l] (lastK funcTab 130)) (Ex.ret) (slices_IndexFunc_impl_Value_impl_Value_Q0_0 a1 v0_0)=slices_IndexFunc_impl_Value_impl_Value_x0_0 D n a1 v0_0:=by kernel_rfl
theorem slices_IndexFunc_impl_Value_impl_Value_X0_1 (D:DX)(n:Nat) (a1:Clo) :
  (CQ funcTab D n 130 [] [.r,.l,.r,.l] (lastK funcTab 130)) (Ex.exit 0) (slices_IndexFunc_impl_Value_impl_Value_Q0_1 a1)=slices_IndexFunc_impl_Value_impl_Value_x0_1 D n a1:=by kernel_rfl
theorem slices_IndexFunc_impl_Value_impl_Value_ELP0 (D:DX)(n:Nat) (a1:Clo) (x0:tRows) (x1:Int) (x2:Int) :
  LQ funcTab D n 130 [.r,.l,.r,.l] n (slices_IndexFunc_impl_Value_impl_Value_Q0 a1 x0 x1 x2) (CQ funcTab D n 130 [] [.r,.l,.r,.l] (lastK funcTab 130))=slices_IndexFunc_impl_Value_impl_Value_LP0 D n a1 x0 x1 x2:=by
  rw[slices_IndexFunc_impl_Value_impl_Value_EL0]
  simp only[slices_IndexFunc_impl_Value_impl_Value_X0_0,slices_IndexFunc_impl_Value_impl_Value_X0_1]
  rfl
theorem E_slices_IndexFunc_impl_Value_impl_Value (D:DX)(n:Nat) (a0:tRows) (a1:Clo):rfC funcTab D n 130 (a0,(a1,()))=F_slices_IndexFunc_impl_Value_impl_Value D n a0 a1:=by
  have h:rfC funcTab D n 130 (a0,(a1,()))=slices_IndexFunc_impl_Value_impl_Value_e D n a1 (fun x0 x1 x2=>LQ funcTab D n 130 [.r,.l,.r,.l] n (slices_IndexFunc_impl_Value_impl_Value_Q0 a1 x0 x1 x2) (CQ funcTab D n 130 [] [.r,.l,.r,.l] (lastK funcTab 130))) a0:=by kernel_rfl
  rw[h]
  simp only[slices_IndexFunc_impl_Value_impl_Value_ELP0]
  rfl

def impl_Insert_2_e (D:DX)(n:Nat) (a0:tVals) (a1:tVals) (a2:(tSch)×tRows×Unit):Option ((Bool×Unit)×Unit):=bindD (C_impl_KeyOfRow D (Prod.fst a2) a0) fun b↦bindD (C_impl_TupleLess D a1 (Prod.fst (Prod.fst b))) fun b↦some ((Prod.fst (Prod.fst b),()),())
def F_impl_Insert_2 (D:DX)(n:Nat) (a0:tVals) (a1:tVals) (a2:(tSch)×tRows×Unit):Option ((Bool×Unit)×Unit):=impl_Insert_2_e D n a0 a1 a2
theorem E_impl_Insert_2 (D:DX)(n:Nat) (a0:tVals) (a1:tVals) (a2:(tSch)×
  tRows×Unit):rfC funcTab D n 131 (a0,(a1,(a2,())))=F_impl_Insert_2 D n a0 a1 a2:=by kernel_rfl


def spec_l19Copy_b0 (D:DX)(n:Nat) (go:Int→tSch→tSch→tSch→Option (((tSch)×Unit)×Unit)) (K0:tSch→tSch→Option (((tSch)×Unit)×Unit)) (x0:Int) (x1:tSch) (x2:tSch) (x3:tSch):Option (((tSch)×Unit)×Unit):=br (decide (x0<(↑(List.length (Prod.fst (Prod.snd (Prod.snd x1)))):Int))) (br (decide (0≤x0)&&decide (x0<(↑(List.length (Prod.fst (Prod.snd (Prod.snd x1)))):Int))) (br (decide (0+List.length (Prod.fst (Prod.snd (List.getD (Prod.fst (Prod.snd (Prod.snd x1))) (Int.toNat x0) (ByteArray.empty,[],false,()))))≤bound)) (br (decide (List.length (Prod.fst (Prod.snd (Prod.snd x3)))+1≤bound)) (go (IntKind.wrap IntKind.i64 (x0+1)) x1 x2 (Prod.fst x3,Prod.fst (Prod.snd x3),Prod.fst (Prod.snd (Prod.snd x3))++[(Prod.fst (List.getD (Prod.fst (Prod.snd (Prod.snd x1))) (Int.toNat x0) (ByteArray.empty,[],false,())),[]++Prod.fst (Prod.snd (List.getD (Prod.fst (Prod.snd (Prod.snd x1))) (Int.toNat x0) (ByteArray.empty,[],false,()))),Prod.fst (Prod.snd (Prod.snd (List.getD (Prod.fst (Prod.snd (Prod.snd x1))) (Int.toNat x0) (ByteArray.empty,[],false,())))),())],Prod.snd (Prod.snd (Prod.snd x3)))) none) none) none) (K0 x2 x3)
def spec_l19Copy_L0 (D:DX)(n:Nat) (K0:tSch→tSch→Option (((tSch)×Unit)×Unit)):Nat→(Int)→(tSch)→(tSch)→(tSch)→Option (((tSch)×Unit)×Unit) | 0=>(fun x0 x1 x2 x3=>none) | m+1=>(fun x0 x1 x2 x3=>spec_l19Copy_b0 D n (spec_l19Copy_L0 D n K0 m) K0 x0 x1 x2 x3)
def spec_l19Copy_x0_0 (D:DX)(n:Nat) (v0_0:tSch) (v0_1:tSch):Option (((tSch)×Unit)×Unit):=some (((Prod.fst v0_1,Prod.fst (Prod.snd v0_1),Prod.fst (Prod.snd (Prod.snd v0_1)),()),()),())
def spec_l19Copy_LP0 (D:DX)(n:Nat):(Int)→(tSch)→(tSch)→(tSch)→Option (((tSch)×Unit)×Unit):=(fun x0 x1 x2 x3=>spec_l19Copy_L0 D n (fun v0_0 v0_1=>spec_l19Copy_x0_0 D n v0_0 v0_1) n x0 x1 x2 x3)
def spec_l19Copy_e (D:DX)(n:Nat) (lp0:Int→tSch→tSch→tSch→Option (((tSch)×Unit)×Unit)) (a0:tSch):Option (((tSch)×Unit)×Unit):=br (decide (0+List.length (Prod.fst a0)≤bound)) (br (decide (0+List.length (Prod.fst (Prod.snd a0))≤bound)) (lp0 0 a0 ([],[],[],()) ([]++Prod.fst a0,[]++Prod.fst (Prod.snd a0),[],())) none) none
def F_spec_l19Copy (D:DX)(n:Nat) (a0:tSch):Option (((tSch)×Unit)×Unit):=spec_l19Copy_e D n (spec_l19Copy_LP0 D n) a0
def spec_l19Copy_Q0 (x0:Int) (x1:tSch) (x2:tSch) (x3:tSch):St:=stq 42 [(1,AV.addr 1 []),(2,AV.addr 2 []),(3,AV.addr 3 []),(4,avI x0)] [(1,Root.mk yS Mk.no x1 true),(2,Root.mk yS (Mk.pr (Mk.own 0 (Mk.pr Mk.no (Mk.pr Mk.no (Mk.pr Mk.no Mk.no)))) (Mk.pr (Mk.own 0 Mk.no) (Mk.pr (Mk.own 0 (Mk.pr Mk.no (Mk.pr (Mk.own 0 Mk.no) (Mk.pr Mk.no Mk.no)))) Mk.no))) x2 true),(3,Root.mk yS (Mk.pr (Mk.own 0 (Mk.pr Mk.no (Mk.pr Mk.no (Mk.pr Mk.no Mk.no)))) (Mk.pr (Mk.own 0 Mk.no) (Mk.pr (Mk.own 0 (Mk.pr Mk.no (Mk.pr (Mk.own 0 Mk.no) (Mk.pr Mk.no Mk.no)))) Mk.no))) x3 true)] 
def spec_l19Copy_Q0_0 (v0_0:tSch) (v0_1:tSch):St:=stq 42 [(2,AV.addr 2 []),(3,AV.addr 3 [])] [(2,Root.mk yS (Mk.pr (Mk.own 0 (Mk.pr Mk.no (Mk.pr Mk.no (Mk.pr Mk.no Mk.no)))) (Mk.pr (Mk.own 0 Mk.no) (Mk.pr (Mk.own 0 (Mk.pr Mk.no (Mk.pr (Mk.own 0 Mk.no) (Mk.pr Mk.no Mk.no)))) Mk.no))) v0_0 true),(3,Root.mk yS (Mk.pr (Mk.own 0 (Mk.pr Mk.no (Mk.pr Mk.no (Mk.pr Mk.no Mk.no)))) (Mk.pr (Mk.own 0 Mk.no) (Mk.pr (Mk.own 0 (Mk.pr Mk.no (Mk.pr (Mk.own 0 Mk.no) (Mk.pr Mk.no Mk.no)))) Mk.no))) v0_1 true)] 
theorem spec_l19Copy_SB0 (D:DX)(n:Nat) (m:Nat) (K:Ex→St→Option (Out ctx 134)) (x0:Int) (x1:tSch) (x2:tSch) (x3:tSch) :
  LQ funcTab D n 134 [.r,.r,.l,.r,.l] (m+1) (spec_l19Copy_Q0 x0 x1 x2 x3) K=spec_l19Copy_b0 D n (fun x0 x1 x2 x3=>LQ funcTab D n 134 [.r,.r,.l,.r,.l] m (spec_l19Copy_Q0 x0 x1 x2 x3) K) (fun v0_0 v0_1=>K (Ex.exit 0) (spec_l19Copy_Q0_0 v0_0 v0_1)) x0 x1 x2 x3:=by kernel_rfl
theorem spec_l19Copy_EL0 (D:DX)(n:Nat) (K:Ex→St→Option (Out ctx 134)):∀ (m:Nat) (x0:Int) (x1:tSch) (x2:tSch) (x3:tSch),LQ funcTab D n 134 [.r,.r,.l,.r,.l] m (spec_l19Copy_Q0 x0 x1 x2 x3) K=spec_l19Copy_L0 D n (fun v0_0 v0_1=>K (Ex.exit 0) (spec_l19Copy_Q0_0 v0_0 v0_1)) m x0 x1 x2 x3
  | 0,x0,x1,x2,x3=>LQ_zero ..
  | m+1,x0,x1,x2,x3=>by
    have ih:(fun x0 x1 x2 x3=>LQ funcTab D n 134 [.r,.r,.l,.r,.l] m (spec_l19Copy_Q0 x0 x1 x2 x3) K)=spec_l19Copy_L0 D n (fun v0_0 v0_1=>K (Ex.exit 0) (spec_l19Copy_Q0_0 v0_0 v0_1)) m:=by funext x0 x1 x2 x3;exact spec_l19Copy_EL0 D n K m x0 x1 x2 x3
    rw[spec_l19Copy_SB0]
    rw[ih];rfl
theorem spec_l19Copy_X0_0 (D:DX)(n:Nat) (v0_0:tSch) (v0_1:tSch) :
  (CQ funcTab D n 134 [] [.r,.r,.l,.r,.l] (lastK funcTab 134)) (Ex.exit 0) (spec_l19Copy_Q0_0 v0_0 v0_1)=spec_l19Copy_x0_0 D n v0_0 v0_1:=by kernel_rfl
theorem spec_l19Copy_ELP0 (D:DX)(n:Nat) (x0:Int) (x1:tSch) (x2:tSch) (x3:tSch) :
  LQ funcTab D n 134 [.r,.r,.l,.r,.l] n (spec_l19Copy_Q0 x0 x1 x2 x3) (CQ funcTab D n 134 [] [.r,.r,.l,.r,.l] (lastK funcTab 134))=spec_l19Copy_LP0 D n x0 x1 x2 x3:=by
  rw[spec_l19Copy_EL0]
  simp only[spec_l19Copy_X0_0]
  rfl
theorem E_spec_l19Copy (D:DX)(n:Nat) (a0:tSch):rfC funcTab D n 134 (a0,())=F_spec_l19Copy D n a0:=by
  have h:rfC funcTab D n 134 (a0,())=spec_l19Copy_e D n (fun x0 x1 x2 x3=>LQ funcTab D n 134 [.r,.r,.l,.r,.l] n (spec_l19Copy_Q0 x0 x1 x2 x3) (CQ funcTab D n 134 [] [.r,.r,.l,.r,.l] (lastK funcTab 134))) a0:=by kernel_rfl
  rw[h]
  simp only[spec_l19Copy_ELP0]
  rfl

def impl_copySchema_b0 (D:DX)(n:Nat) (go:tIxs→Int→Int→tSch→tSch→Option (((tSch)×Unit)×Unit)) (K0:tSch→tSch→Option (((tSch)×Unit)×Unit)) (x0:tIxs) (x1:Int) (x2:Int) (x3:tSch) (x4:tSch):Option (((tSch)×Unit)×Unit):=br (decide (x2<x1)) (br (decide (0≤x2)&&decide (x2<(↑(List.length x0):Int))) (bindD (C_slices_Clone_int_int D (Prod.fst (Prod.snd (List.getD x0 (Int.toNat x2) (ByteArray.empty,[],false,()))))) fun b↦br (decide (List.length (Prod.fst (Prod.snd (Prod.snd x4)))+1≤bound)) (go x0 x1 (IntKind.wrap IntKind.i64 (x2+1)) x3 (Prod.fst x4,Prod.fst (Prod.snd x4),Prod.fst (Prod.snd (Prod.snd x4))++[(Prod.fst (List.getD x0 (Int.toNat x2) (ByteArray.empty,[],false,())),Prod.fst (Prod.fst b),Prod.snd (Prod.snd (List.getD x0 (Int.toNat x2) (ByteArray.empty,[],false,()))))],Prod.snd (Prod.snd (Prod.snd x4)))) none) none) (K0 x3 x4)
def impl_copySchema_L0 (D:DX)(n:Nat) (K0:tSch→tSch→Option (((tSch)×Unit)×Unit)):Nat→(tIxs)→(Int)→(Int)→(tSch)→(tSch)→Option (((tSch)×Unit)×Unit) | 0=>(fun x0 x1 x2 x3 x4=>none) | m+1=>(fun x0 x1 x2 x3 x4=>impl_copySchema_b0 D n (impl_copySchema_L0 D n K0 m) K0 x0 x1 x2 x3 x4)
def impl_copySchema_x0_0 (D:DX)(n:Nat) (v0_0:tSch) (v0_1:tSch):Option (((tSch)×Unit)×Unit):=some (((Prod.fst v0_1,Prod.fst (Prod.snd v0_1),Prod.fst (Prod.snd (Prod.snd v0_1)),()),()),())
def impl_copySchema_LP0 (D:DX)(n:Nat):(tIxs)→(Int)→(Int)→(tSch)→(tSch)→Option (((tSch)×Unit)×Unit):=(fun x0 x1 x2 x3 x4=>impl_copySchema_L0 D n (fun v0_0 v0_1=>impl_copySchema_x0_0 D n v0_0 v0_1) n x0 x1 x2 x3 x4)
def impl_copySchema_e (D:DX)(n:Nat) (lp0:tIxs→Int→Int→tSch→tSch→Option (((tSch)×Unit)×Unit)) (a0:tSch):Option (((tSch)×Unit)×Unit):=bindD (C_slices_Clone_impl_Col_impl_Col D (Prod.fst a0)) fun b↦bindD (C_slices_Clone_int_int D (Prod.fst (Prod.snd a0))) fun b_1↦lp0 (Prod.fst (Prod.snd (Prod.snd a0))) (↑(List.length (Prod.fst (Prod.snd (Prod.snd a0)))):Int) 0 ([],[],[],()) (Prod.fst (Prod.fst b),Prod.fst (Prod.fst b_1),[],())
def F_impl_copySchema (D:DX)(n:Nat) (a0:tSch):Option (((tSch)×Unit)×Unit):=impl_copySchema_e D n (impl_copySchema_LP0 D n) a0
def impl_copySchema_Q0 (x0:tIxs) (x1:Int) (x2:Int) (x3:tSch) (x4:tSch):St:=stq 32 [(2,AV.addr 2 []),(3,AV.addr 3 []),(14,AV.val (Ty.sl yX) x0),(15,avI x1),(16,avI x2)] [(2,Root.mk yS (Mk.pr (Mk.own 0 (Mk.pr Mk.no (Mk.pr Mk.no (Mk.pr Mk.no Mk.no)))) (Mk.pr (Mk.own 0 Mk.no) (Mk.pr (Mk.own 0 (Mk.pr Mk.no (Mk.pr (Mk.own 0 Mk.no) (Mk.pr Mk.no Mk.no)))) Mk.no))) x3 true),(3,Root.mk yS (Mk.pr (Mk.own 0 (Mk.pr Mk.no (Mk.pr Mk.no (Mk.pr Mk.no Mk.no)))) (Mk.pr (Mk.own 0 Mk.no) (Mk.pr (Mk.own 0 (Mk.pr Mk.no (Mk.pr (Mk.own 0 Mk.no) (Mk.pr Mk.no Mk.no)))) Mk.no))) x4 true)] 
def impl_copySchema_Q0_0 (v0_0:tSch) (v0_1:tSch):St:=stq 32 [(2,AV.addr 2 []),(3,AV.addr 3 [])] [(2,Root.mk yS (Mk.pr (Mk.own 0 (Mk.pr Mk.no (Mk.pr Mk.no (Mk.pr Mk.no Mk.no)))) (Mk.pr (Mk.own 0 Mk.no) (Mk.pr (Mk.own 0 (Mk.pr Mk.no (Mk.pr (Mk.own 0 Mk.no) (Mk.pr Mk.no Mk.no)))) Mk.no))) v0_0 true),(3,Root.mk yS (Mk.pr (Mk.own 0 (Mk.pr Mk.no (Mk.pr Mk.no (Mk.pr Mk.no Mk.no)))) (Mk.pr (Mk.own 0 Mk.no) (Mk.pr (Mk.own 0 (Mk.pr Mk.no (Mk.pr (Mk.own 0 Mk.no) (Mk.pr Mk.no Mk.no)))) Mk.no))) v0_1 true)] 
theorem impl_copySchema_SB0 (D:DX)(n:Nat) (m:Nat) (K:Ex→St→Option (Out ctx 135)) (x0:tIxs) (x1:Int) (x2:Int) (x3:tSch) (x4:tSch) :
  LQ funcTab D n 135 [.r,.r,.l,.r,.l] (m+1) (impl_copySchema_Q0 x0 x1 x2 x3 x4) K=impl_copySchema_b0 D n (fun x0 x1 x2 x3 x4=>LQ funcTab D n 135 [.r,.r,.l,.r,.l] m (impl_copySchema_Q0 x0 x1 x2 x3 x4) K) (fun v0_0 v0_1=>K (Ex.exit 0) (impl_copySchema_Q0_0 v0_0 v0_1)) x0 x1 x2 x3 x4:=by kernel_rfl
theorem impl_copySchema_EL0 (D:DX)(n:Nat) (K:Ex→St→Option (Out ctx 135)):∀ (m:Nat) (x0:tIxs) (x1:Int) (x2:Int) (x3:tSch) (x4:tSch),LQ funcTab D n 135 [.r,.r,.l,.r,.l] m (impl_copySchema_Q0 x0 x1 x2 x3 x4) K=impl_copySchema_L0 D n (fun v0_0 v0_1=>K (Ex.exit 0) (impl_copySchema_Q0_0 v0_0 v0_1)) m x0 x1 x2 x3 x4
  | 0,x0,x1,x2,x3,x4=>LQ_zero ..
  | m+1,x0,x1,x2,x3,x4=>by
    have ih:(fun x0 x1 x2 x3 x4=>LQ funcTab D n 135 [.r,.r,.l,.r,.l] m (impl_copySchema_Q0 x0 x1 x2 x3 x4) K)=impl_copySchema_L0 D n (fun v0_0 v0_1=>K (Ex.exit 0) (impl_copySchema_Q0_0 v0_0 v0_1)) m:=by funext x0 x1 x2 x3 x4;exact impl_copySchema_EL0 D n K m x0 x1 x2 x3 x4
    rw[impl_copySchema_SB0]
    rw[ih];rfl
theorem impl_copySchema_X0_0 (D:DX)(n:Nat) (v0_0:tSch) (v0_1:tSch) :
  (CQ funcTab D n 135 [] [.r,.r,.l,.r,.l] (lastK funcTab 135)) (Ex.exit 0) (impl_copySchema_Q0_0 v0_0 v0_1)=impl_copySchema_x0_0 D n v0_0 v0_1:=by kernel_rfl
theorem impl_copySchema_ELP0 (D:DX)(n:Nat) (x0:tIxs) (x1:Int) (x2:Int) (x3:tSch) (x4:tSch) :
  LQ funcTab D n 135 [.r,.r,.l,.r,.l] n (impl_copySchema_Q0 x0 x1 x2 x3 x4) (CQ funcTab D n 135 [] [.r,.r,.l,.r,.l] (lastK funcTab 135))=impl_copySchema_LP0 D n x0 x1 x2 x3 x4:=by
  rw[impl_copySchema_EL0]
  simp only[impl_copySchema_X0_0]
  rfl
theorem E_impl_copySchema (D:DX)(n:Nat) (a0:tSch):rfC funcTab D n 135 (a0,())=F_impl_copySchema D n a0:=by
  have h:rfC funcTab D n 135 (a0,())=impl_copySchema_e D n (fun x0 x1 x2 x3 x4=>LQ funcTab D n 135 [.r,.r,.l,.r,.l] n (impl_copySchema_Q0 x0 x1 x2 x3 x4) (CQ funcTab D n 135 [] [.r,.r,.l,.r,.l] (lastK funcTab 135))) a0:=by kernel_rfl
  rw[h]
  simp only[impl_copySchema_ELP0]
  rfl


end
end Go.G


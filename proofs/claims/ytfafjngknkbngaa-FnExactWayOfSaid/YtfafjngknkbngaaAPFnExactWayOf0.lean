import Derived.Test.YtfafjngknkbngaaAV3
set_option linter.unusedVariables false
set_option linter.unusedSimpArgs false
set_option linter.unusedSectionVars false
namespace Go.G
open Go Go.V
abbrev DX:=Den ctx
abbrev tVal:=Int×Int×ByteArray×Unit
abbrev tVals:=List tVal
abbrev tRows:=List tVals
abbrev tIx:=ByteArray×List Int×Bool×Unit
abbrev tIxs:=List tIx
abbrev tCol:=ByteArray×Int×Bool×Unit
abbrev tCols:=List tCol
abbrev tSch:=tCols×List Int×tIxs×Unit
abbrev tWay:=ByteArray×ByteArray×Unit
abbrev tCur:=List Int×Int×Int×Unit
abbrev avI:=AV.val (Ty.int IntKind.i64)
abbrev avV:=AV.val
abbrev yI:=Ty.int IntKind.i64
abbrev yC:=Ty.pair Ty.str (Ty.pair yI (Ty.pair Ty.bool Ty.unit))
abbrev yX:=Ty.pair Ty.str (Ty.pair (Ty.sl yI) (Ty.pair Ty.bool Ty.unit))
abbrev yV:=Ty.pair yI (Ty.pair yI (Ty.pair Ty.str Ty.unit))
abbrev yS:=Ty.pair (Ty.sl yC) (Ty.pair (Ty.sl yI) (Ty.pair (Ty.sl yX) Ty.unit))
end Go.G
namespace Go.G
open Go Go.V
noncomputable def C_laws_FnExactWayOf (D:Den ctx) (a0:(tSch)×tRows×Unit) (a1:Int) (a2:tVals):Option ((Bool×Unit)×Unit):=D 7 (a0,(a1,(a2,())))
noncomputable def C_laws_szSchema (D:Den ctx) (a0:tSch) (a1:Int):Option ((Int×Unit)×Unit):=D 15 (a0,(a1,()))
noncomputable def C_spec_SchemaOk (D:Den ctx) (a0:tSch):Option ((Bool×Unit)×Unit):=D 16 (a0,())
noncomputable def C_laws_toSchema (D:Den ctx) (a0:tSch):Option (((tSch)×Unit)×Unit):=D 17 (a0,())
noncomputable def C_impl_SchemaOk (D:Den ctx) (a0:tSch):Option ((Bool×Unit)×Unit):=D 18 (a0,())
noncomputable def C_laws_eqSchema (D:Den ctx) (a0:tSch) (a1:tSch):Option ((Bool×Unit)×Unit):=D 19 (a0,(a1,()))
noncomputable def C_impl_RowOk (D:Den ctx) (a0:tSch) (a1:tVals):Option ((Bool×Unit)×Unit):=D 26 (a0,(a1,()))
noncomputable def C_spec_RowOk (D:Den ctx) (a0:tSch) (a1:tVals):Option ((Bool×Unit)×Unit):=D 27 (a0,(a1,()))
noncomputable def C_impl_ColNameOk (D:Den ctx) (a0:ByteArray):Option ((Bool×Unit)×Unit):=D 28 (a0,())
noncomputable def C_spec_ColNameOk (D:Den ctx) (a0:ByteArray):Option ((Bool×Unit)×Unit):=D 29 (a0,())
noncomputable def C_impl_ColAt (D:Den ctx) (a0:tSch) (a1:ByteArray):Option ((Int×Unit)×Unit):=D 30 (a0,(a1,()))
noncomputable def C_spec_ColAt (D:Den ctx) (a0:tSch) (a1:ByteArray):Option ((Int×Unit)×Unit):=D 31 (a0,(a1,()))
noncomputable def C_impl_KeyOfRow (D:Den ctx) (a0:tSch) (a1:tVals):Option ((tVals×Unit)×Unit):=D 33 (a0,(a1,()))
noncomputable def C_spec_KeyOfRow (D:Den ctx) (a0:tSch) (a1:tVals):Option ((tVals×Unit)×Unit):=D 34 (a0,(a1,()))
noncomputable def C_impl_TupleOk (D:Den ctx) (a0:tVals):Option ((Bool×Unit)×Unit):=D 35 (a0,())
noncomputable def C_laws_szValueS (D:Den ctx) (a0:tVals) (a1:Int):Option ((Int×Unit)×Unit):=D 36 (a0,(a1,()))
noncomputable def C_laws_toValueS (D:Den ctx) (a0:tVals):Option ((tVals×Unit)×Unit):=D 37 (a0,())
noncomputable def C_laws_eqValueS (D:Den ctx) (a0:tVals) (a1:tVals):Option ((Bool×Unit)×Unit):=D 38 (a0,(a1,()))
noncomputable def C_laws_markSchema (D:Den ctx) (a0:tSch) (a1:Int):Option ((Int×Unit)×(tSch)×Unit):=D 39 (a0,(a1,()))
noncomputable def C_laws_markValueS (D:Den ctx) (a0:tVals) (a1:Int):Option ((Int×Unit)×tVals×Unit):=D 40 (a0,(a1,()))
noncomputable def C_laws_heldValueS (D:Den ctx) (a0:tVals) (a1:Int):Option ((Int×Unit)×Unit):=D 41 (a0,(a1,()))
noncomputable def C_laws_szRelation (D:Den ctx) (a0:(tSch)×tRows×Unit) (a1:Int):Option ((Int×Unit)×Unit):=D 42 (a0,(a1,()))
noncomputable def C_spec_WayOf (D:Den ctx) (a0:(tSch)×tRows×Unit) (a1:Int) (a2:tVals):Option ((tWay×Bool×Unit)×Unit):=D 43 (a0,(a1,(a2,())))
noncomputable def C_laws_toRelation (D:Den ctx) (a0:(tSch)×tRows×Unit):Option ((((tSch)×tRows×Unit)×Unit)×Unit):=D 44 (a0,())
noncomputable def C_impl_WayOf (D:Den ctx) (a0:(tSch)×tRows×Unit) (a1:Int) (a2:tVals):Option ((tWay×Bool×Unit)×Unit):=D 45 (a0,(a1,(a2,())))
noncomputable def C_laws_eqWay (D:Den ctx) (a0:ByteArray×ByteArray×Unit) (a1:ByteArray×ByteArray×Unit):Option ((Bool×Unit)×Unit):=D 46 (a0,(a1,()))
noncomputable def C_laws_eqRelation (D:Den ctx) (a0:(tSch)×tRows×Unit) (a1:(tSch)×tRows×Unit):Option ((Bool×Unit)×Unit):=D 47 (a0,(a1,()))
noncomputable def C_spec_RelOk (D:Den ctx) (a0:(tSch)×tRows×Unit):Option ((Bool×Unit)×Unit):=D 48 (a0,())
noncomputable def C_impl_RelOk (D:Den ctx) (a0:(tSch)×tRows×Unit):Option ((Bool×Unit)×Unit):=D 49 (a0,())
noncomputable def C_impl_Lookup (D:Den ctx) (a0:(tSch)×tRows×Unit) (a1:tVals):Option ((tVals×Bool×Unit)×Unit):=D 54 (a0,(a1,()))
noncomputable def C_impl_Project (D:Den ctx) (a0:tVals) (a1:List Int):Option ((tVals×Unit)×Unit):=D 56 (a0,(a1,()))
noncomputable def C_spec_Lookup (D:Den ctx) (a0:(tSch)×tRows×Unit) (a1:tVals):Option ((tVals×Bool×Unit)×Unit):=D 58 (a0,(a1,()))
noncomputable def C_laws_markRelation (D:Den ctx) (a0:(tSch)×tRows×Unit) (a1:Int):Option ((Int×Unit)×((tSch)×tRows×Unit)×Unit):=D 59 (a0,(a1,()))
noncomputable def C_laws_heldRelation (D:Den ctx) (a0:(tSch)×tRows×Unit) (a1:Int):Option ((Int×Unit)×Unit):=D 62 (a0,(a1,()))
noncomputable def C_laws_szColS (D:Den ctx) (a0:tCols) (a1:Int):Option ((Int×Unit)×Unit):=D 70 (a0,(a1,()))
noncomputable def C_laws_szIntS (D:Den ctx) (a0:List Int) (a1:Int):Option ((Int×Unit)×Unit):=D 71 (a0,(a1,()))
noncomputable def C_laws_szIndexS (D:Den ctx) (a0:tIxs) (a1:Int):Option ((Int×Unit)×Unit):=D 72 (a0,(a1,()))
noncomputable def C_spec_l1In (D:Den ctx) (a0:Int) (a1:Int) (a2:Int):Option ((Bool×Unit)×Unit):=D 73 (a0,(a1,(a2,())))
noncomputable def C_spec_l19Places (D:Den ctx) (a0:tSch) (a1:List Int) (a2:Int):Option ((Bool×Unit)×Unit):=D 74 (a0,(a1,(a2,())))
noncomputable def C_spec_l19Indexes (D:Den ctx) (a0:tSch):Option ((Bool×Unit)×Unit):=D 75 (a0,())
noncomputable def C_laws_toColS (D:Den ctx) (a0:tCols):Option ((tCols×Unit)×Unit):=D 76 (a0,())
noncomputable def C_laws_toIntS (D:Den ctx) (a0:List Int):Option ((List Int×Unit)×Unit):=D 77 (a0,())
noncomputable def C_laws_toIndexS (D:Den ctx) (a0:tIxs):Option ((tIxs×Unit)×Unit):=D 78 (a0,())
noncomputable def C_impl_from (D:Den ctx) (a0:Int) (a1:Int) (a2:Int):Option ((Bool×Unit)×Unit):=D 79 (a0,(a1,(a2,())))
noncomputable def C_impl_placesOk (D:Den ctx) (a0:tSch) (a1:List Int) (a2:Int):Option ((Bool×Unit)×Unit):=D 80 (a0,(a1,(a2,())))
noncomputable def C_slices_ContainsFunc_impl_Index_impl_Index (D:Den ctx) (a0:tIxs) (a1:Clo):Option ((Bool×Unit)×Unit):=D 81 (a0,(a1,()))
noncomputable def C_impl_SchemaOk_1 (D:Den ctx) (a0:ByteArray×List Int×Bool×Unit) (a1:ByteArray×List Int×Bool×Unit):Option ((Bool×Unit)×Unit):=D 82 (a0,(a1,()))
noncomputable def C_slices_ContainsFunc_int_int (D:Den ctx) (a0:List Int) (a1:Clo):Option ((Bool×Unit)×Unit):=D 83 (a0,(a1,()))
noncomputable def C_impl_SchemaOk_2 (D:Den ctx) (a0:Int) (a1:tSch):Option ((Bool×Unit)×Unit):=D 84 (a0,(a1,()))
noncomputable def C_laws_eqColS (D:Den ctx) (a0:tCols) (a1:tCols):Option ((Bool×Unit)×Unit):=D 85 (a0,(a1,()))
noncomputable def C_laws_eqIntS (D:Den ctx) (a0:List Int) (a1:List Int):Option ((Bool×Unit)×Unit):=D 86 (a0,(a1,()))
noncomputable def C_laws_eqIndexS (D:Den ctx) (a0:tIxs) (a1:tIxs):Option ((Bool×Unit)×Unit):=D 87 (a0,(a1,()))
noncomputable def C_impl_ValueOk (D:Den ctx) (a0:Int×Int×ByteArray×Unit):Option ((Bool×Unit)×Unit):=D 94 (a0,())
noncomputable def C_spec_ValueOk (D:Den ctx) (a0:Int×Int×ByteArray×Unit):Option ((Bool×Unit)×Unit):=D 95 (a0,())
noncomputable def C_slices_IndexFunc_impl_Col_impl_Col (D:Den ctx) (a0:tCols) (a1:Clo):Option ((Int×Unit)×Unit):=D 96 (a0,(a1,()))
noncomputable def C_impl_ColAt_1 (D:Den ctx) (a0:ByteArray×Int×Bool×Unit) (a1:ByteArray):Option ((Bool×Unit)×Unit):=D 97 (a0,(a1,()))
noncomputable def C_spec_Project (D:Den ctx) (a0:tVals) (a1:List Int):Option ((tVals×Unit)×Unit):=D 98 (a0,(a1,()))
noncomputable def C_slices_ContainsFunc_impl_Value_impl_Value (D:Den ctx) (a0:tVals) (a1:Clo):Option ((Bool×Unit)×Unit):=D 99 (a0,(a1,()))
noncomputable def C_impl_TupleOk_1 (D:Den ctx) (a0:Int×Int×ByteArray×Unit):Option ((Bool×Unit)×Unit):=D 100 (a0,())
noncomputable def C_laws_szValue (D:Den ctx) (a0:Int×Int×ByteArray×Unit) (a1:Int):Option ((Int×Unit)×Unit):=D 101 (a0,(a1,()))
noncomputable def C_laws_toValue (D:Den ctx) (a0:Int×Int×ByteArray×Unit):Option ((tVal×Unit)×Unit):=D 102 (a0,())
noncomputable def C_laws_eqValue (D:Den ctx) (a0:Int×Int×ByteArray×Unit) (a1:Int×Int×ByteArray×Unit):Option ((Bool×Unit)×Unit):=D 103 (a0,(a1,()))
noncomputable def C_laws_markColS (D:Den ctx) (a0:tCols) (a1:Int):Option ((Int×Unit)×tCols×Unit):=D 104 (a0,(a1,()))
noncomputable def C_laws_markIntS (D:Den ctx) (a0:List Int) (a1:Int):Option ((Int×Unit)×List Int×Unit):=D 105 (a0,(a1,()))
noncomputable def C_laws_markIndexS (D:Den ctx) (a0:tIxs) (a1:Int):Option ((Int×Unit)×tIxs×Unit):=D 106 (a0,(a1,()))
noncomputable def C_laws_markText (D:Den ctx) (a0:Int):Option ((ByteArray×Unit)×Unit):=D 107 (a0,())
noncomputable def C_laws_szValueSS (D:Den ctx) (a0:tRows) (a1:Int):Option ((Int×Unit)×Unit):=D 108 (a0,(a1,()))
noncomputable def C_spec_TupleBytes (D:Den ctx) (a0:tVals):Option ((List Int×Unit)×Unit):=D 109 (a0,())
noncomputable def C_laws_toValueSS (D:Den ctx) (a0:tRows):Option ((tRows×Unit)×Unit):=D 110 (a0,())
noncomputable def C_impl_way (D:Den ctx) (a0:tSch) (a1:Int) (a2:tVals):Option ((tWay×Unit)×Unit):=D 111 (a0,(a1,(a2,())))
noncomputable def C_laws_eqValueSS (D:Den ctx) (a0:tRows) (a1:tRows):Option ((Bool×Unit)×Unit):=D 112 (a0,(a1,()))
noncomputable def C_spec_TupleLess (D:Den ctx) (a0:tVals) (a1:tVals):Option ((Bool×Unit)×Unit):=D 113 (a0,(a1,()))
noncomputable def C_spec_l21Clash (D:Den ctx) (a0:tSch) (a1:tVals) (a2:tVals):Option ((Bool×Unit)×Unit):=D 114 (a0,(a1,(a2,())))
noncomputable def C_impl_TupleLess (D:Den ctx) (a0:tVals) (a1:tVals):Option ((Bool×Unit)×Unit):=D 115 (a0,(a1,()))
noncomputable def C_slices_ContainsFunc_impl_Value_impl_Valuex (D:Den ctx) (a0:tRows) (a1:Clo):Option ((Bool×Unit)×Unit):=D 116 (a0,(a1,()))
noncomputable def C_impl_RelOk_1 (D:Den ctx) (a0:tVals) (a1:(tSch)×tRows×Unit) (a2:tVals):Option ((Bool×Unit)×Unit):=D 117 (a0,(a1,(a2,())))
noncomputable def C_impl_clash (D:Den ctx) (a0:tSch) (a1:tVals) (a2:tVals):Option ((Bool×Unit)×Unit):=D 118 (a0,(a1,(a2,())))
noncomputable def C_impl_keyAt (D:Den ctx) (a0:(tSch)×tRows×Unit) (a1:tVals):Option ((Int×Unit)×Unit):=D 122 (a0,(a1,()))
noncomputable def C_slices_Clone_impl_Value_impl_Value (D:Den ctx) (a0:tVals):Option ((tVals×Unit)×Unit):=D 123 (a0,())
noncomputable def C_spec_l21At (D:Den ctx) (a0:(tSch)×tRows×Unit) (a1:tVals):Option ((Int×Unit)×Unit):=D 125 (a0,(a1,()))
noncomputable def C_slices_IndexFunc_impl_Value_impl_Value (D:Den ctx) (a0:tRows) (a1:Clo):Option ((Int×Unit)×Unit):=D 130 (a0,(a1,()))
noncomputable def C_laws_markValueSS (D:Den ctx) (a0:tRows) (a1:Int):Option ((Int×Unit)×tRows×Unit):=D 133 (a0,(a1,()))
noncomputable def C_laws_heldSchema (D:Den ctx) (a0:tSch) (a1:Int):Option ((Int×Unit)×Unit):=D 136 (a0,(a1,()))
noncomputable def C_laws_heldValueSS (D:Den ctx) (a0:tRows) (a1:Int):Option ((Int×Unit)×Unit):=D 137 (a0,(a1,()))
noncomputable def C_laws_szCol (D:Den ctx) (a0:ByteArray×Int×Bool×Unit) (a1:Int):Option ((Int×Unit)×Unit):=D 143 (a0,(a1,()))
noncomputable def C_laws_szIndex (D:Den ctx) (a0:ByteArray×List Int×Bool×Unit) (a1:Int):Option ((Int×Unit)×Unit):=D 144 (a0,(a1,()))
noncomputable def C_laws_toCol (D:Den ctx) (a0:ByteArray×Int×Bool×Unit):Option ((tCol×Unit)×Unit):=D 145 (a0,())
noncomputable def C_laws_toIndex (D:Den ctx) (a0:ByteArray×List Int×Bool×Unit):Option ((tIx×Unit)×Unit):=D 146 (a0,())
noncomputable def C_slices_Contains_int_int (D:Den ctx) (a0:List Int) (a1:Int):Option ((Bool×Unit)×Unit):=D 147 (a0,(a1,()))
noncomputable def C_slices_IndexFunc_impl_Index_impl_Index (D:Den ctx) (a0:tIxs) (a1:Clo):Option ((Int×Unit)×Unit):=D 148 (a0,(a1,()))
noncomputable def C_slices_IndexFunc_int_int (D:Den ctx) (a0:List Int) (a1:Clo):Option ((Int×Unit)×Unit):=D 149 (a0,(a1,()))
noncomputable def C_laws_eqCol (D:Den ctx) (a0:ByteArray×Int×Bool×Unit) (a1:ByteArray×Int×Bool×Unit):Option ((Bool×Unit)×Unit):=D 150 (a0,(a1,()))
noncomputable def C_laws_eqIndex (D:Den ctx) (a0:ByteArray×List Int×Bool×Unit) (a1:ByteArray×List Int×Bool×Unit):Option ((Bool×Unit)×Unit):=D 151 (a0,(a1,()))
noncomputable def C_slices_IndexFunc_impl_Value_impl_Valuex (D:Den ctx) (a0:tVals) (a1:Clo):Option ((Int×Unit)×Unit):=D 158 (a0,(a1,()))
noncomputable def C_spec_TupleOk (D:Den ctx) (a0:tVals):Option ((Bool×Unit)×Unit):=D 159 (a0,())
noncomputable def C_spec_l18Value (D:Den ctx) (a0:Int×Int×ByteArray×Unit):Option ((List Int×Unit)×Unit):=D 160 (a0,())
noncomputable def C_impl_TupleBytes (D:Den ctx) (a0:tVals):Option ((List Int×Unit)×Unit):=D 161 (a0,())
noncomputable def C_spec_ValueSame (D:Den ctx) (a0:Int×Int×ByteArray×Unit) (a1:Int×Int×ByteArray×Unit):Option ((Bool×Unit)×Unit):=D 162 (a0,(a1,()))
noncomputable def C_spec_ValueLess (D:Den ctx) (a0:Int×Int×ByteArray×Unit) (a1:Int×Int×ByteArray×Unit):Option ((Bool×Unit)×Unit):=D 163 (a0,(a1,()))
noncomputable def C_spec_l18Same (D:Den ctx) (a0:tVals) (a1:tVals):Option ((Bool×Unit)×Unit):=D 164 (a0,(a1,()))
noncomputable def C_spec_l21Some (D:Den ctx) (a0:tVals):Option ((Bool×Unit)×Unit):=D 165 (a0,())
noncomputable def C_slices_CompareFunc_impl_Value_impl_Value_impl_Value_impl_Value (D:Den ctx) (a0:tVals) (a1:tVals) (a2:Clo):Option ((Int×Unit)×Unit):=D 166 (a0,(a1,(a2,())))
noncomputable def C_impl_byValue (D:Den ctx) (a0:Int×Int×ByteArray×Unit) (a1:Int×Int×ByteArray×Unit):Option ((Int×Unit)×Unit):=D 167 (a0,(a1,()))
noncomputable def C_impl_clash_1 (D:Den ctx) (a0:ByteArray×List Int×Bool×Unit) (a1:tVals) (a2:tVals):Option ((Bool×Unit)×Unit):=D 168 (a0,(a1,(a2,())))
noncomputable def C_slices_Contains_impl_Value_impl_Value (D:Den ctx) (a0:tVals) (a1:Int×Int×ByteArray×Unit):Option ((Bool×Unit)×Unit):=D 169 (a0,(a1,()))
noncomputable def C_slices_Equal_impl_Value_impl_Value (D:Den ctx) (a0:tVals) (a1:tVals):Option ((Bool×Unit)×Unit):=D 170 (a0,(a1,()))
noncomputable def C_impl_keyAt_1 (D:Den ctx) (a0:tVals) (a1:(tSch)×tRows×Unit) (a2:tVals):Option ((Bool×Unit)×Unit):=D 173 (a0,(a1,(a2,())))
noncomputable def C_laws_heldColS (D:Den ctx) (a0:tCols) (a1:Int):Option ((Int×Unit)×Unit):=D 178 (a0,(a1,()))
noncomputable def C_laws_heldIntS (D:Den ctx) (a0:List Int) (a1:Int):Option ((Int×Unit)×Unit):=D 179 (a0,(a1,()))
noncomputable def C_laws_heldIndexS (D:Den ctx) (a0:tIxs) (a1:Int):Option ((Int×Unit)×Unit):=D 180 (a0,(a1,()))
noncomputable def C_slices_Index_int_int (D:Den ctx) (a0:List Int) (a1:Int):Option ((Int×Unit)×Unit):=D 186 (a0,(a1,()))
noncomputable def C_strings_Compare (D:Den ctx) (a0:ByteArray) (a1:ByteArray):Option ((Int×Unit)×Unit):=D 187 (a0,(a1,()))
noncomputable def C_slices_Index_impl_Value_impl_Value (D:Den ctx) (a0:tVals) (a1:Int×Int×ByteArray×Unit):Option ((Int×Unit)×Unit):=D 188 (a0,(a1,()))
end Go.G

namespace Go.G
set_option maxRecDepth 100000
set_option maxHeartbeats 0
open Go Go.V
noncomputable section
def laws_FnExactWayOf_e (D:DX)(n:Nat) (a0:(tSch)×tRows×Unit) (a1:Int) (a2:tVals):Option ((Bool×Unit)×Unit):=bindD (C_laws_szRelation D a0 1048576) fun b↦br (decide (Prod.fst (Prod.fst b)<0)) (some ((true,()),())) (bindD (C_laws_szValueS D a2 (Prod.fst (Prod.fst b))) fun b↦br (decide (Prod.fst (Prod.fst b)<0)) (some ((true,()),())) (bindD (C_laws_toRelation D a0) fun b↦bindD (C_laws_toValueS D a2) fun b_1↦bindD (C_spec_WayOf D ((Prod.fst (Prod.fst (Prod.fst (Prod.fst b))),Prod.fst (Prod.snd (Prod.fst (Prod.fst (Prod.fst b)))),Prod.fst (Prod.snd (Prod.snd (Prod.fst (Prod.fst (Prod.fst b))))),()),Prod.fst (Prod.snd (Prod.fst (Prod.fst b))),()) a1 (Prod.fst (Prod.fst b_1))) fun b↦bindD (C_laws_toRelation D a0) fun b_2↦bindD (C_laws_toValueS D a2) fun b_3↦bindD (C_impl_WayOf D ((Prod.fst (Prod.fst (Prod.fst (Prod.fst b_2))),Prod.fst (Prod.snd (Prod.fst (Prod.fst (Prod.fst b_2)))),Prod.fst (Prod.snd (Prod.snd (Prod.fst (Prod.fst (Prod.fst b_2))))),()),Prod.fst (Prod.snd (Prod.fst (Prod.fst b_2))),()) a1 (Prod.fst (Prod.fst b_3))) fun b_4↦bindD (C_laws_eqWay D (Prod.fst (Prod.fst b_4)) (Prod.fst (Prod.fst b))) fun b_5↦br (bif !Prod.fst (Prod.fst b_5) then true else !decide (Prod.fst (Prod.snd (Prod.fst b_4))=Prod.fst (Prod.snd (Prod.fst b)))) (some ((false,()),())) (bindD (C_laws_toRelation D a0) fun b↦bindD (C_laws_eqRelation D ((Prod.fst (Prod.fst (Prod.fst (Prod.fst b_2))),Prod.fst (Prod.snd (Prod.fst (Prod.fst (Prod.fst b_2)))),Prod.fst (Prod.snd (Prod.snd (Prod.fst (Prod.fst (Prod.fst b_2))))),()),Prod.fst (Prod.snd (Prod.fst (Prod.fst b_2))),()) ((Prod.fst (Prod.fst (Prod.fst (Prod.fst b))),Prod.fst (Prod.snd (Prod.fst (Prod.fst (Prod.fst b)))),Prod.fst (Prod.snd (Prod.snd (Prod.fst (Prod.fst (Prod.fst b))))),()),Prod.fst (Prod.snd (Prod.fst (Prod.fst b))),())) fun b↦br (!Prod.fst (Prod.fst b)) (some ((false,()),())) (bindD (C_laws_toValueS D a2) fun b↦bindD (C_laws_eqValueS D (Prod.fst (Prod.fst b_3)) (Prod.fst (Prod.fst b))) fun b↦br (!Prod.fst (Prod.fst b)) (some ((false,()),())) (some ((true,()),()))))))
def F_laws_FnExactWayOf (D:DX)(n:Nat) (a0:(tSch)×tRows×Unit) (a1:Int) (a2:tVals):Option ((Bool×Unit)×Unit):=laws_FnExactWayOf_e D n a0 a1 a2
theorem E_laws_FnExactWayOf (D:DX)(n:Nat) (a0:(tSch)×
  tRows×Unit) (a1:Int) (a2:tVals):rfC funcTab D n 7 (a0,(a1,(a2,())))=F_laws_FnExactWayOf D n a0 a1 a2:=by kernel_rfl

def laws_szSchema_e (D:DX)(n:Nat) (a0:tSch) (a1:Int):Option ((Int×Unit)×Unit):=bindD (C_laws_szColS D (Prod.fst a0) a1) fun b↦br (decide (Prod.fst (Prod.fst b)<0)) (some ((-1,()),())) (bindD (C_laws_szIntS D (Prod.fst (Prod.snd a0)) (Prod.fst (Prod.fst b))) fun b↦br (decide (Prod.fst (Prod.fst b)<0)) (some ((-1,()),())) (bindD (C_laws_szIndexS D (Prod.fst (Prod.snd (Prod.snd a0))) (Prod.fst (Prod.fst b))) fun b↦br (decide (Prod.fst (Prod.fst b)<0)) (some ((-1,()),())) (some ((Prod.fst (Prod.fst b),()),()))))
def F_laws_szSchema (D:DX)(n:Nat) (a0:tSch) (a1:Int):Option ((Int×Unit)×Unit):=laws_szSchema_e D n a0 a1
theorem E_laws_szSchema (D:DX)(n:Nat) (a0:tSch) (a1:Int):rfC funcTab D n 15 (a0,(a1,()))=F_laws_szSchema D n a0 a1:=by kernel_rfl

def spec_SchemaOk_b0 (D:DX)(n:Nat) (go:Int→tSch→Option ((Bool×Unit)×Unit)) (K0:Bool→tSch→Option ((Bool×Unit)×Unit)) (K1:tSch→Option ((Bool×Unit)×Unit)) (x0:Int) (x1:tSch):Option ((Bool×Unit)×Unit):=br (decide (x0<(↑(List.length (Prod.fst x1)):Int))) (br (decide (0≤x0)&&decide (x0<(↑(List.length (Prod.fst x1)):Int))) (bindD (C_spec_ColNameOk D (Prod.fst (List.getD (Prod.fst x1) (Int.toNat x0) (ByteArray.empty,0,false,())))) fun b↦br (!Prod.fst (Prod.fst b)) (K0 false x1) (br (decide (0≤x0)&&decide (x0<(↑(List.length (Prod.fst x1)):Int))) (bindD (C_spec_l1In D (Prod.fst (Prod.snd (List.getD (Prod.fst x1) (Int.toNat x0) (ByteArray.empty,0,false,())))) 1 3) fun b↦br (!Prod.fst (Prod.fst b)) (K0 false x1) (br (decide (0≤x0)&&decide (x0<(↑(List.length (Prod.fst x1)):Int))) (bindD (C_spec_ColAt D x1 (Prod.fst (List.getD (Prod.fst x1) (Int.toNat x0) (ByteArray.empty,0,false,())))) fun b↦br (Prod.fst (Prod.fst b) != x0) (K0 false x1) (go (IntKind.wrap IntKind.i64 (x0+1)) x1)) none)) none)) none) (K1 x1)
def spec_SchemaOk_L0 (D:DX)(n:Nat) (K0:Bool→tSch→Option ((Bool×Unit)×Unit)) (K1:tSch→Option ((Bool×Unit)×Unit)):Nat→(Int)→(tSch)→Option ((Bool×Unit)×Unit) | 0=>(fun x0 x1=>none) | m+1=>(fun x0 x1=>spec_SchemaOk_b0 D n (spec_SchemaOk_L0 D n K0 K1 m) K0 K1 x0 x1)
def spec_SchemaOk_x0_0 (D:DX)(n:Nat) (v0_0:Bool) (v0_1:tSch):Option ((Bool×Unit)×Unit):=some ((v0_0,()),())
def spec_SchemaOk_b1 (D:DX)(n:Nat) (go:Int→tSch→Option ((Bool×Unit)×Unit)) (K0:Bool→Option ((Bool×Unit)×Unit)) (K1:Option ((Bool×Unit)×Unit)) (x1_0:Int) (x1_1:tSch):Option ((Bool×Unit)×Unit):=br (decide (x1_0<(↑(List.length (Prod.fst (Prod.snd x1_1))):Int))) (br (decide (0≤x1_0)&&decide (x1_0<(↑(List.length (Prod.fst (Prod.snd x1_1))):Int))) (br (decide (0≤List.getD (Prod.fst (Prod.snd x1_1)) (Int.toNat x1_0) 0)&&decide (List.getD (Prod.fst (Prod.snd x1_1)) (Int.toNat x1_0) 0<(↑(List.length (Prod.fst x1_1)):Int))) (br (Prod.fst (Prod.snd (Prod.snd (List.getD (Prod.fst x1_1) (Int.toNat (List.getD (Prod.fst (Prod.snd x1_1)) (Int.toNat x1_0) 0)) (ByteArray.empty,0,false,()))))) (K0 false) (go (IntKind.wrap IntKind.i64 (x1_0+1)) x1_1)) none) none) K1
def spec_SchemaOk_L1 (D:DX)(n:Nat) (K0:Bool→Option ((Bool×Unit)×Unit)) (K1:Option ((Bool×Unit)×Unit)):Nat→(Int)→(tSch)→Option ((Bool×Unit)×Unit) | 0=>(fun x1_0 x1_1=>none) | m+1=>(fun x1_0 x1_1=>spec_SchemaOk_b1 D n (spec_SchemaOk_L1 D n K0 K1 m) K0 K1 x1_0 x1_1)
def spec_SchemaOk_x1_0 (D:DX)(n:Nat) (v0_0:Bool):Option ((Bool×Unit)×Unit):=some ((v0_0,()),())
def spec_SchemaOk_x1_1 (D:DX)(n:Nat):Option ((Bool×Unit)×Unit):=some ((true,()),())
def spec_SchemaOk_LP1 (D:DX)(n:Nat):(Int)→(tSch)→Option ((Bool×Unit)×Unit):=(fun x1_0 x1_1=>spec_SchemaOk_L1 D n (fun v0_0=>spec_SchemaOk_x1_0 D n v0_0) (spec_SchemaOk_x1_1 D n) n x1_0 x1_1)
def spec_SchemaOk_x0_1 (D:DX)(n:Nat) (lp1:Int→tSch→Option ((Bool×Unit)×Unit)) (v1_0:tSch):Option ((Bool×Unit)×Unit):=bindD (C_spec_l1In D (↑(List.length (Prod.fst v1_0)):Int) 1 5) fun b↦br (!Prod.fst (Prod.fst b)) (some ((false,()),())) (bindD (C_spec_l19Places D v1_0 (Prod.fst (Prod.snd v1_0)) 4) fun b↦br (!Prod.fst (Prod.fst b)) (some ((false,()),())) (bindD (C_spec_l19Indexes D v1_0) fun b↦br (!Prod.fst (Prod.fst b)) (some ((false,()),())) (lp1 0 v1_0)))
def spec_SchemaOk_LP0 (D:DX)(n:Nat):(Int)→(tSch)→Option ((Bool×Unit)×Unit):=(fun x0 x1=>spec_SchemaOk_L0 D n (fun v0_0 v0_1=>spec_SchemaOk_x0_0 D n v0_0 v0_1) (fun v1_0=>spec_SchemaOk_x0_1 D n (spec_SchemaOk_LP1 D n) v1_0) n x0 x1)
def spec_SchemaOk_e (D:DX)(n:Nat) (lp0:Int→tSch→Option ((Bool×Unit)×Unit)) (a0:tSch):Option ((Bool×Unit)×Unit):=lp0 0 a0
def F_spec_SchemaOk (D:DX)(n:Nat) (a0:tSch):Option ((Bool×Unit)×Unit):=spec_SchemaOk_e D n (spec_SchemaOk_LP0 D n) a0
def spec_SchemaOk_Q0 (x0:Int) (x1:tSch):St:=stq 76 [(1,AV.addr 1 []),(3,avI x0)] [(1,Root.mk yS Mk.no x1 true)] 
def spec_SchemaOk_Q0_0 (v0_0:Bool) (v0_1:tSch):St:=stq 76 [(1,AV.addr 1 []),(2,AV.val Ty.bool v0_0)] [(1,Root.mk yS Mk.no v0_1 true)] 
def spec_SchemaOk_Q0_1 (v1_0:tSch):St:=stq 76 [(1,AV.addr 1 [])] [(1,Root.mk yS Mk.no v1_0 true)] 
def spec_SchemaOk_Q1 (x1_0:Int) (x1_1:tSch):St:=stq 76 [(1,AV.addr 1 []),(4,avI x1_0)] [(1,Root.mk yS Mk.no x1_1 true)] 
def spec_SchemaOk_Q1_0 (v0_0:Bool):St:=stq 76 [(2,AV.val Ty.bool v0_0)] [] 
def spec_SchemaOk_Q1_1:St:=stq 76 [] [] 
theorem spec_SchemaOk_SB0 (D:DX)(n:Nat) (m:Nat) (K:Ex→St→Option (Out ctx 16)) (x0:Int) (x1:tSch) :
  LQ funcTab D n 16 [.r,.l,.r,.l] (m+1) (spec_SchemaOk_Q0 x0 x1) K=spec_SchemaOk_b0 D n (fun x0 x1=>LQ funcTab D n 16 [.r,.l,.r,.l] m (spec_SchemaOk_Q0 x0 x1) K) (fun v0_0 v0_1=>K (Ex.ret) (spec_SchemaOk_Q0_0 v0_0 v0_1)) (fun v1_0=>K (Ex.exit 0) (spec_SchemaOk_Q0_1 v1_0)) x0 x1:=by kernel_rfl
theorem spec_SchemaOk_EL0 (D:DX)(n:Nat) (K:Ex→St→Option (Out ctx 16)):∀ (m:Nat) (x0:Int) (x1:tSch),LQ funcTab D n 16 [.r,.l,.r,.l] m (spec_SchemaOk_Q0 x0 x1) K=spec_SchemaOk_L0 D n (fun v0_0 v0_1=>K (Ex.ret) (spec_SchemaOk_Q0_0 v0_0 v0_1)) (fun v1_0=>K (Ex.exit 0) (spec_SchemaOk_Q0_1 v1_0)) m x0 x1
  | 0,x0,x1=>LQ_zero ..
  | m+1,x0,x1=>by
    have ih:(fun x0 x1=>LQ funcTab D n 16 [.r,.l,.r,.l] m (spec_SchemaOk_Q0 x0 x1) K)=spec_SchemaOk_L0 D n (fun v0_0 v0_1=>K (Ex.ret) (spec_SchemaOk_Q0_0 v0_0 v0_1)) (fun v1_0=>K (Ex.exit 0) (spec_SchemaOk_Q0_1 v1_0)) m:=by funext x0 x1;exact spec_SchemaOk_EL0 D n K m x0 x1
    rw[spec_SchemaOk_SB0]
    rw[ih];rfl
theorem spec_SchemaOk_SB1 (D:DX)(n:Nat) (m:Nat) (K:Ex→St→Option (Out ctx 16)) (x1_0:Int) (x1_1:tSch) :
  LQ funcTab D n 16 [.r,.r,.r,.l,.r,.l] (m+1) (spec_SchemaOk_Q1 x1_0 x1_1) K=spec_SchemaOk_b1 D n (fun x1_0 x1_1=>LQ funcTab D n 16 [.r,.r,.r,.l,.r,.l] m (spec_SchemaOk_Q1 x1_0 x1_1) K) (fun v0_0=>K (Ex.ret) (spec_SchemaOk_Q1_0 v0_0)) (K (Ex.exit 2) (spec_SchemaOk_Q1_1)) x1_0 x1_1:=by kernel_rfl
theorem spec_SchemaOk_EL1 (D:DX)(n:Nat) (K:Ex→St→Option (Out ctx 16)):∀ (m:Nat) (x1_0:Int) (x1_1:tSch),LQ funcTab D n 16 [.r,.r,.r,.l,.r,.l] m (spec_SchemaOk_Q1 x1_0 x1_1) K=spec_SchemaOk_L1 D n (fun v0_0=>K (Ex.ret) (spec_SchemaOk_Q1_0 v0_0)) (K (Ex.exit 2) (spec_SchemaOk_Q1_1)) m x1_0 x1_1
  | 0,x1_0,x1_1=>LQ_zero ..
  | m+1,x1_0,x1_1=>by
    have ih:(fun x1_0 x1_1=>LQ funcTab D n 16 [.r,.r,.r,.l,.r,.l] m (spec_SchemaOk_Q1 x1_0 x1_1) K)=spec_SchemaOk_L1 D n (fun v0_0=>K (Ex.ret) (spec_SchemaOk_Q1_0 v0_0)) (K (Ex.exit 2) (spec_SchemaOk_Q1_1)) m:=by funext x1_0 x1_1;exact spec_SchemaOk_EL1 D n K m x1_0 x1_1
    rw[spec_SchemaOk_SB1]
    rw[ih];rfl
theorem spec_SchemaOk_X1_0 (D:DX)(n:Nat) (v0_0:Bool) :
  (CQ funcTab D n 16 [] [.r,.r,.r,.l,.r,.l] (lastK funcTab 16)) (Ex.ret) (spec_SchemaOk_Q1_0 v0_0)=spec_SchemaOk_x1_0 D n v0_0:=by kernel_rfl
theorem spec_SchemaOk_X1_1 (D:DX)(n:Nat) :
  (CQ funcTab D n 16 [] [.r,.r,.r,.l,.r,.l] (lastK funcTab 16)) (Ex.exit 2) (spec_SchemaOk_Q1_1)=spec_SchemaOk_x1_1 D n:=by kernel_rfl
theorem spec_SchemaOk_ELP1 (D:DX)(n:Nat) (x1_0:Int) (x1_1:tSch) :
  LQ funcTab D n 16 [.r,.r,.r,.l,.r,.l] n (spec_SchemaOk_Q1 x1_0 x1_1) (CQ funcTab D n 16 [] [.r,.r,.r,.l,.r,.l] (lastK funcTab 16))=spec_SchemaOk_LP1 D n x1_0 x1_1:=by
  rw[spec_SchemaOk_EL1]
  simp only[spec_SchemaOk_X1_0,spec_SchemaOk_X1_1]
  rfl
theorem spec_SchemaOk_X0_0 (D:DX)(n:Nat) (v0_0:Bool) (v0_1:tSch) :
  (CQ funcTab D n 16 [] [.r,.l,.r,.l] (lastK funcTab 16)) (Ex.ret) (spec_SchemaOk_Q0_0 v0_0 v0_1)=spec_SchemaOk_x0_0 D n v0_0 v0_1:=by kernel_rfl
theorem spec_SchemaOk_X0_1 (D:DX)(n:Nat) (v1_0:tSch) :
  (CQ funcTab D n 16 [] [.r,.l,.r,.l] (lastK funcTab 16)) (Ex.exit 0) (spec_SchemaOk_Q0_1 v1_0)=spec_SchemaOk_x0_1 D n (fun x1_0 x1_1=>LQ funcTab D n 16 [.r,.r,.r,.l,.r,.l] n (spec_SchemaOk_Q1 x1_0 x1_1) (CQ funcTab D n 16 [] [.r,.r,.r,.l,.r,.l] (lastK funcTab 16))) v1_0:=by kernel_rfl
theorem spec_SchemaOk_ELP0 (D:DX)(n:Nat) (x0:Int) (x1:tSch) :
  LQ funcTab D n 16 [.r,.l,.r,.l] n (spec_SchemaOk_Q0 x0 x1) (CQ funcTab D n 16 [] [.r,.l,.r,.l] (lastK funcTab 16))=spec_SchemaOk_LP0 D n x0 x1:=by
  rw[spec_SchemaOk_EL0]
  simp only[spec_SchemaOk_X0_0,spec_SchemaOk_X0_1,spec_SchemaOk_ELP1]
  rfl
theorem E_spec_SchemaOk (D:DX)(n:Nat) (a0:tSch):rfC funcTab D n 16 (a0,())=F_spec_SchemaOk D n a0:=by
  have h:rfC funcTab D n 16 (a0,())=spec_SchemaOk_e D n (fun x0 x1=>LQ funcTab D n 16 [.r,.l,.r,.l] n (spec_SchemaOk_Q0 x0 x1) (CQ funcTab D n 16 [] [.r,.l,.r,.l] (lastK funcTab 16))) a0:=by kernel_rfl
  rw[h]
  simp only[spec_SchemaOk_ELP0]
  rfl

def laws_toSchema_e (D:DX)(n:Nat) (a0:tSch):Option (((tSch)×Unit)×Unit):=bindD (C_laws_toColS D (Prod.fst a0)) fun b↦bindD (C_laws_toIntS D (Prod.fst (Prod.snd a0))) fun b_1↦bindD (C_laws_toIndexS D (Prod.fst (Prod.snd (Prod.snd a0)))) fun b_2↦some (((Prod.fst (Prod.fst b),Prod.fst (Prod.fst b_1),Prod.fst (Prod.fst b_2),()),()),())
def F_laws_toSchema (D:DX)(n:Nat) (a0:tSch):Option (((tSch)×Unit)×Unit):=laws_toSchema_e D n a0
theorem E_laws_toSchema (D:DX)(n:Nat) (a0:tSch):rfC funcTab D n 17 (a0,())=F_laws_toSchema D n a0:=by kernel_rfl

def impl_SchemaOk_b0 (D:DX)(n:Nat) (go:tCols→Int→Int→tSch→Option ((Bool×Unit)×Unit)) (K0:Bool→tSch→Option ((Bool×Unit)×Unit)) (K1:tSch→Option ((Bool×Unit)×Unit)) (x0:tCols) (x1:Int) (x2:Int) (x3:tSch):Option ((Bool×Unit)×Unit):=br (decide (x2<x1)) (br (decide (0≤x2)&&decide (x2<(↑(List.length x0):Int))) (bindD (C_impl_ColNameOk D (Prod.fst (List.getD x0 (Int.toNat x2) (ByteArray.empty,0,false,())))) fun b↦br (!Prod.fst (Prod.fst b)) (K0 false x3) (bindD (C_impl_from D (Prod.fst (Prod.snd (List.getD x0 (Int.toNat x2) (ByteArray.empty,0,false,())))) 1 3) fun b↦br (!Prod.fst (Prod.fst b)) (K0 false x3) (bindD (C_impl_ColAt D x3 (Prod.fst (List.getD x0 (Int.toNat x2) (ByteArray.empty,0,false,())))) fun b↦br (Prod.fst (Prod.fst b) != x2) (K0 false x3) (go x0 x1 (IntKind.wrap IntKind.i64 (x2+1)) x3)))) none) (K1 x3)
def impl_SchemaOk_L0 (D:DX)(n:Nat) (K0:Bool→tSch→Option ((Bool×Unit)×Unit)) (K1:tSch→Option ((Bool×Unit)×Unit)):Nat→(tCols)→(Int)→(Int)→(tSch)→Option ((Bool×Unit)×Unit) | 0=>(fun x0 x1 x2 x3=>none) | m+1=>(fun x0 x1 x2 x3=>impl_SchemaOk_b0 D n (impl_SchemaOk_L0 D n K0 K1 m) K0 K1 x0 x1 x2 x3)
def impl_SchemaOk_x0_0 (D:DX)(n:Nat) (v0_0:Bool) (v0_1:tSch):Option ((Bool×Unit)×Unit):=some ((v0_0,()),())
def impl_SchemaOk_b1 (D:DX)(n:Nat) (go:tIxs→Int→Int→tSch→Option ((Bool×Unit)×Unit)) (K0:Bool→tSch→Option ((Bool×Unit)×Unit)) (K1:tSch→Option ((Bool×Unit)×Unit)) (x1_0:tIxs) (x1_1:Int) (x1_2:Int) (x1_3:tSch):Option ((Bool×Unit)×Unit):=br (decide (x1_2<x1_1)) (br (decide (0≤x1_2)&&decide (x1_2<(↑(List.length x1_0):Int))) (bindD (C_impl_ColNameOk D (Prod.fst (List.getD x1_0 (Int.toNat x1_2) (ByteArray.empty,[],false,())))) fun b↦br (!Prod.fst (Prod.fst b)) (K0 false x1_3) (bindD (C_impl_placesOk D x1_3 (Prod.fst (Prod.snd (List.getD x1_0 (Int.toNat x1_2) (ByteArray.empty,[],false,())))) 3) fun b↦br (!Prod.fst (Prod.fst b)) (K0 false x1_3) (br (decide (0≤0)&&decide (0≤x1_2)&&decide (x1_2≤(↑(List.length (Prod.fst (Prod.snd (Prod.snd x1_3)))):Int))) (bindD (C_slices_ContainsFunc_impl_Index_impl_Index D (List.drop (Int.toNat 0) (List.take (Int.toNat x1_2) (Prod.fst (Prod.snd (Prod.snd x1_3))))) (Clo.mk 82 [CapV.rptr (Ty.pair Ty.str (Ty.pair (Ty.sl (Ty.int IntKind.i64)) (Ty.pair Ty.bool Ty.unit))) (List.getD x1_0 (Int.toNat x1_2) (ByteArray.empty,[],false,()))])) fun b↦br (Prod.fst (Prod.fst b)) (K0 false x1_3) (go x1_0 x1_1 (IntKind.wrap IntKind.i64 (x1_2+1)) x1_3)) none))) none) (K1 x1_3)
def impl_SchemaOk_L1 (D:DX)(n:Nat) (K0:Bool→tSch→Option ((Bool×Unit)×Unit)) (K1:tSch→Option ((Bool×Unit)×Unit)):Nat→(tIxs)→(Int)→(Int)→(tSch)→Option ((Bool×Unit)×Unit) | 0=>(fun x1_0 x1_1 x1_2 x1_3=>none) | m+1=>(fun x1_0 x1_1 x1_2 x1_3=>impl_SchemaOk_b1 D n (impl_SchemaOk_L1 D n K0 K1 m) K0 K1 x1_0 x1_1 x1_2 x1_3)
def impl_SchemaOk_x1_0 (D:DX)(n:Nat) (v0_0:Bool) (v0_1:tSch):Option ((Bool×Unit)×Unit):=some ((v0_0,()),())
def impl_SchemaOk_x1_1 (D:DX)(n:Nat) (v1_0:tSch):Option ((Bool×Unit)×Unit):=bindD (C_impl_from D (↑(List.length (Prod.fst v1_0)):Int) 1 5) fun b↦br (Prod.fst (Prod.fst b)) (bindD (C_impl_placesOk D v1_0 (Prod.fst (Prod.snd v1_0)) 4) fun b↦br (Prod.fst (Prod.fst b)) (bindD (C_slices_ContainsFunc_int_int D (Prod.fst (Prod.snd v1_0)) (Clo.mk 84 [CapV.rptr (Ty.pair (Ty.sl (Ty.pair Ty.str (Ty.pair (Ty.int IntKind.i64) (Ty.pair Ty.bool Ty.unit)))) (Ty.pair (Ty.sl (Ty.int IntKind.i64)) (Ty.pair (Ty.sl (Ty.pair Ty.str (Ty.pair (Ty.sl (Ty.int IntKind.i64)) (Ty.pair Ty.bool Ty.unit)))) Ty.unit))) v1_0])) fun b↦some ((bif !Prod.fst (Prod.fst b) then decide ((↑(List.length (Prod.fst (Prod.snd (Prod.snd v1_0)))):Int)≤3) else false,()),())) (some ((false,()),()))) (some ((false,()),()))
def impl_SchemaOk_LP1 (D:DX)(n:Nat):(tIxs)→(Int)→(Int)→(tSch)→Option ((Bool×Unit)×Unit):=(fun x1_0 x1_1 x1_2 x1_3=>impl_SchemaOk_L1 D n (fun v0_0 v0_1=>impl_SchemaOk_x1_0 D n v0_0 v0_1) (fun v1_0=>impl_SchemaOk_x1_1 D n v1_0) n x1_0 x1_1 x1_2 x1_3)
def impl_SchemaOk_x0_1 (D:DX)(n:Nat) (lp1:tIxs→Int→Int→tSch→Option ((Bool×Unit)×Unit)) (v1_0:tSch):Option ((Bool×Unit)×Unit):=lp1 (Prod.fst (Prod.snd (Prod.snd v1_0))) (↑(List.length (Prod.fst (Prod.snd (Prod.snd v1_0)))):Int) 0 v1_0
def impl_SchemaOk_LP0 (D:DX)(n:Nat):(tCols)→(Int)→(Int)→(tSch)→Option ((Bool×Unit)×Unit):=(fun x0 x1 x2 x3=>impl_SchemaOk_L0 D n (fun v0_0 v0_1=>impl_SchemaOk_x0_0 D n v0_0 v0_1) (fun v1_0=>impl_SchemaOk_x0_1 D n (impl_SchemaOk_LP1 D n) v1_0) n x0 x1 x2 x3)
def impl_SchemaOk_e (D:DX)(n:Nat) (lp0:tCols→Int→Int→tSch→Option ((Bool×Unit)×Unit)) (a0:tSch):Option ((Bool×Unit)×Unit):=lp0 (Prod.fst a0) (↑(List.length (Prod.fst a0)):Int) 0 a0
def F_impl_SchemaOk (D:DX)(n:Nat) (a0:tSch):Option ((Bool×Unit)×Unit):=impl_SchemaOk_e D n (impl_SchemaOk_LP0 D n) a0
def impl_SchemaOk_Q0 (x0:tCols) (x1:Int) (x2:Int) (x3:tSch):St:=stq 85 [(1,AV.addr 1 []),(8,AV.val (Ty.sl yC) x0),(9,avI x1),(10,avI x2)] [(1,Root.mk yS Mk.no x3 true)] 
def impl_SchemaOk_Q0_0 (v0_0:Bool) (v0_1:tSch):St:=stq 85 [(1,AV.addr 1 []),(2,AV.val Ty.bool v0_0)] [(1,Root.mk yS Mk.no v0_1 true)] 
def impl_SchemaOk_Q0_1 (v1_0:tSch):St:=stq 85 [(1,AV.addr 1 [])] [(1,Root.mk yS Mk.no v1_0 true)] 
def impl_SchemaOk_Q1 (x1_0:tIxs) (x1_1:Int) (x1_2:Int) (x1_3:tSch):St:=stq 85 [(1,AV.addr 1 []),(35,AV.val (Ty.sl yX) x1_0),(36,avI x1_1),(37,avI x1_2)] [(1,Root.mk yS Mk.no x1_3 true)] 
def impl_SchemaOk_Q1_0 (v0_0:Bool) (v0_1:tSch):St:=stq 85 [(1,AV.addr 1 []),(2,AV.val Ty.bool v0_0)] [(1,Root.mk yS Mk.no v0_1 true)] 
def impl_SchemaOk_Q1_1 (v1_0:tSch):St:=stq 85 [(1,AV.addr 1 [])] [(1,Root.mk yS Mk.no v1_0 true)] 
theorem impl_SchemaOk_SB0 (D:DX)(n:Nat) (m:Nat) (K:Ex→St→Option (Out ctx 18)) (x0:tCols) (x1:Int) (x2:Int) (x3:tSch) :
  LQ funcTab D n 18 [.r,.l,.r,.l] (m+1) (impl_SchemaOk_Q0 x0 x1 x2 x3) K=impl_SchemaOk_b0 D n (fun x0 x1 x2 x3=>LQ funcTab D n 18 [.r,.l,.r,.l] m (impl_SchemaOk_Q0 x0 x1 x2 x3) K) (fun v0_0 v0_1=>K (Ex.ret) (impl_SchemaOk_Q0_0 v0_0 v0_1)) (fun v1_0=>K (Ex.exit 0) (impl_SchemaOk_Q0_1 v1_0)) x0 x1 x2 x3:=by kernel_rfl
theorem impl_SchemaOk_EL0 (D:DX)(n:Nat) (K:Ex→St→Option (Out ctx 18)):∀ (m:Nat) (x0:tCols) (x1:Int) (x2:Int) (x3:tSch),LQ funcTab D n 18 [.r,.l,.r,.l] m (impl_SchemaOk_Q0 x0 x1 x2 x3) K=impl_SchemaOk_L0 D n (fun v0_0 v0_1=>K (Ex.ret) (impl_SchemaOk_Q0_0 v0_0 v0_1)) (fun v1_0=>K (Ex.exit 0) (impl_SchemaOk_Q0_1 v1_0)) m x0 x1 x2 x3
  | 0,x0,x1,x2,x3=>LQ_zero ..
  | m+1,x0,x1,x2,x3=>by
    have ih:(fun x0 x1 x2 x3=>LQ funcTab D n 18 [.r,.l,.r,.l] m (impl_SchemaOk_Q0 x0 x1 x2 x3) K)=impl_SchemaOk_L0 D n (fun v0_0 v0_1=>K (Ex.ret) (impl_SchemaOk_Q0_0 v0_0 v0_1)) (fun v1_0=>K (Ex.exit 0) (impl_SchemaOk_Q0_1 v1_0)) m:=by funext x0 x1 x2 x3;exact impl_SchemaOk_EL0 D n K m x0 x1 x2 x3
    rw[impl_SchemaOk_SB0]
    rw[ih];rfl
theorem impl_SchemaOk_SB1 (D:DX)(n:Nat) (m:Nat) (K:Ex→St→Option (Out ctx 18)) (x1_0:tIxs) (x1_1:Int) (x1_2:Int) (x1_3:tSch) :
  LQ funcTab D n 18 [.r,.r,.l,.r,.l] (m+1) (impl_SchemaOk_Q1 x1_0 x1_1 x1_2 x1_3) K=impl_SchemaOk_b1 D n (fun x1_0 x1_1 x1_2 x1_3=>LQ funcTab D n 18 [.r,.r,.l,.r,.l] m (impl_SchemaOk_Q1 x1_0 x1_1 x1_2 x1_3) K) (fun v0_0 v0_1=>K (Ex.ret) (impl_SchemaOk_Q1_0 v0_0 v0_1)) (fun v1_0=>K (Ex.exit 2) (impl_SchemaOk_Q1_1 v1_0)) x1_0 x1_1 x1_2 x1_3:=by kernel_rfl
theorem impl_SchemaOk_EL1 (D:DX)(n:Nat) (K:Ex→St→Option (Out ctx 18)):∀ (m:Nat) (x1_0:tIxs) (x1_1:Int) (x1_2:Int) (x1_3:tSch),LQ funcTab D n 18 [.r,.r,.l,.r,.l] m (impl_SchemaOk_Q1 x1_0 x1_1 x1_2 x1_3) K=impl_SchemaOk_L1 D n (fun v0_0 v0_1=>K (Ex.ret) (impl_SchemaOk_Q1_0 v0_0 v0_1)) (fun v1_0=>K (Ex.exit 2) (impl_SchemaOk_Q1_1 v1_0)) m x1_0 x1_1 x1_2 x1_3
  | 0,x1_0,x1_1,x1_2,x1_3=>LQ_zero ..
  | m+1,x1_0,x1_1,x1_2,x1_3=>by
    have ih:(fun x1_0 x1_1 x1_2 x1_3=>LQ funcTab D n 18 [.r,.r,.l,.r,.l] m (impl_SchemaOk_Q1 x1_0 x1_1 x1_2 x1_3) K)=impl_SchemaOk_L1 D n (fun v0_0 v0_1=>K (Ex.ret) (impl_SchemaOk_Q1_0 v0_0 v0_1)) (fun v1_0=>K (Ex.exit 2) (impl_SchemaOk_Q1_1 v1_0)) m:=by funext x1_0 x1_1 x1_2 x1_3;exact impl_SchemaOk_EL1 D n K m x1_0 x1_1 x1_2 x1_3
    rw[impl_SchemaOk_SB1]
    rw[ih];rfl
theorem impl_SchemaOk_X1_0 (D:DX)(n:Nat) (v0_0:Bool) (v0_1:tSch) :
  (CQ funcTab D n 18 [] [.r,.r,.l,.r,.l] (lastK funcTab 18)) (Ex.ret) (impl_SchemaOk_Q1_0 v0_0 v0_1)=impl_SchemaOk_x1_0 D n v0_0 v0_1:=by kernel_rfl
theorem impl_SchemaOk_X1_1 (D:DX)(n:Nat) (v1_0:tSch) :
  (CQ funcTab D n 18 [] [.r,.r,.l,.r,.l] (lastK funcTab 18)) (Ex.exit 2) (impl_SchemaOk_Q1_1 v1_0)=impl_SchemaOk_x1_1 D n v1_0:=by kernel_rfl
theorem impl_SchemaOk_ELP1 (D:DX)(n:Nat) (x1_0:tIxs) (x1_1:Int) (x1_2:Int) (x1_3:tSch) :
  LQ funcTab D n 18 [.r,.r,.l,.r,.l] n (impl_SchemaOk_Q1 x1_0 x1_1 x1_2 x1_3) (CQ funcTab D n 18 [] [.r,.r,.l,.r,.l] (lastK funcTab 18))=impl_SchemaOk_LP1 D n x1_0 x1_1 x1_2 x1_3:=by
  rw[impl_SchemaOk_EL1]
  simp only[impl_SchemaOk_X1_0,impl_SchemaOk_X1_1]
  rfl
theorem impl_SchemaOk_X0_0 (D:DX)(n:Nat) (v0_0:Bool) (v0_1:tSch) :
  (CQ funcTab D n 18 [] [.r,.l,.r,.l] (lastK funcTab 18)) (Ex.ret) (impl_SchemaOk_Q0_0 v0_0 v0_1)=impl_SchemaOk_x0_0 D n v0_0 v0_1:=by kernel_rfl
theorem impl_SchemaOk_X0_1 (D:DX)(n:Nat) (v1_0:tSch) :
  (CQ funcTab D n 18 [] [.r,.l,.r,.l] (lastK funcTab 18)) (Ex.exit 0) (impl_SchemaOk_Q0_1 v1_0)=impl_SchemaOk_x0_1 D n (fun x1_0 x1_1 x1_2 x1_3=>LQ funcTab D n 18 [.r,.r,.l,.r,.l] n (impl_SchemaOk_Q1 x1_0 x1_1 x1_2 x1_3) (CQ funcTab D n 18 [] [.r,.r,.l,.r,.l] (lastK funcTab 18))) v1_0:=by kernel_rfl
theorem impl_SchemaOk_ELP0 (D:DX)(n:Nat) (x0:tCols) (x1:Int) (x2:Int) (x3:tSch) :
  LQ funcTab D n 18 [.r,.l,.r,.l] n (impl_SchemaOk_Q0 x0 x1 x2 x3) (CQ funcTab D n 18 [] [.r,.l,.r,.l] (lastK funcTab 18))=impl_SchemaOk_LP0 D n x0 x1 x2 x3:=by
  rw[impl_SchemaOk_EL0]
  simp only[impl_SchemaOk_X0_0,impl_SchemaOk_X0_1,impl_SchemaOk_ELP1]
  rfl
theorem E_impl_SchemaOk (D:DX)(n:Nat) (a0:tSch):rfC funcTab D n 18 (a0,())=F_impl_SchemaOk D n a0:=by
  have h:rfC funcTab D n 18 (a0,())=impl_SchemaOk_e D n (fun x0 x1 x2 x3=>LQ funcTab D n 18 [.r,.l,.r,.l] n (impl_SchemaOk_Q0 x0 x1 x2 x3) (CQ funcTab D n 18 [] [.r,.l,.r,.l] (lastK funcTab 18))) a0:=by kernel_rfl
  rw[h]
  simp only[impl_SchemaOk_ELP0]
  rfl

def laws_eqSchema_e (D:DX)(n:Nat) (a0:tSch) (a1:tSch):Option ((Bool×Unit)×Unit):=bindD (C_laws_eqColS D (Prod.fst a0) (Prod.fst a1)) fun b↦br (!Prod.fst (Prod.fst b)) (some ((false,()),())) (bindD (C_laws_eqIntS D (Prod.fst (Prod.snd a0)) (Prod.fst (Prod.snd a1))) fun b↦br (!Prod.fst (Prod.fst b)) (some ((false,()),())) (bindD (C_laws_eqIndexS D (Prod.fst (Prod.snd (Prod.snd a0))) (Prod.fst (Prod.snd (Prod.snd a1)))) fun b↦br (!Prod.fst (Prod.fst b)) (some ((false,()),())) (some ((true,()),()))))
def F_laws_eqSchema (D:DX)(n:Nat) (a0:tSch) (a1:tSch):Option ((Bool×Unit)×Unit):=laws_eqSchema_e D n a0 a1
theorem E_laws_eqSchema (D:DX)(n:Nat) (a0:tSch) (a1:tSch):rfC funcTab D n 19 (a0,(a1,()))=F_laws_eqSchema D n a0 a1:=by kernel_rfl

def impl_RowOk_b0 (D:DX)(n:Nat) (go:tVals→Int→Int→tSch→Option ((Bool×Unit)×Unit)) (K0:Bool→Option ((Bool×Unit)×Unit)) (K1:Option ((Bool×Unit)×Unit)) (x0:tVals) (x1:Int) (x2:Int) (x3:tSch):Option ((Bool×Unit)×Unit):=br (decide (x2<x1)) (br (decide (0≤x2)&&decide (x2<(↑(List.length x0):Int))) (br (decide (0≤x2)&&decide (x2<(↑(List.length (Prod.fst x3)):Int))) (bindD (C_impl_ValueOk D (List.getD x0 (Int.toNat x2) (0,0,ByteArray.empty,()))) fun b↦br (bif !Prod.fst (Prod.fst b) then true else bif Prod.fst (List.getD x0 (Int.toNat x2) (0,0,ByteArray.empty,())) != Prod.fst (Prod.snd (List.getD (Prod.fst x3) (Int.toNat x2) (ByteArray.empty,0,false,()))) then !bif decide (Prod.fst (List.getD x0 (Int.toNat x2) (0,0,ByteArray.empty,()))=0) then Prod.fst (Prod.snd (Prod.snd (List.getD (Prod.fst x3) (Int.toNat x2) (ByteArray.empty,0,false,())))) else false else false) (K0 false) (go x0 x1 (IntKind.wrap IntKind.i64 (x2+1)) x3)) none) none) K1
def impl_RowOk_L0 (D:DX)(n:Nat) (K0:Bool→Option ((Bool×Unit)×Unit)) (K1:Option ((Bool×Unit)×Unit)):Nat→(tVals)→(Int)→(Int)→(tSch)→Option ((Bool×Unit)×Unit) | 0=>(fun x0 x1 x2 x3=>none) | m+1=>(fun x0 x1 x2 x3=>impl_RowOk_b0 D n (impl_RowOk_L0 D n K0 K1 m) K0 K1 x0 x1 x2 x3)
def impl_RowOk_x0_0 (D:DX)(n:Nat) (v0_0:Bool):Option ((Bool×Unit)×Unit):=some ((v0_0,()),())
def impl_RowOk_x0_1 (D:DX)(n:Nat):Option ((Bool×Unit)×Unit):=some ((true,()),())
def impl_RowOk_LP0 (D:DX)(n:Nat):(tVals)→(Int)→(Int)→(tSch)→Option ((Bool×Unit)×Unit):=(fun x0 x1 x2 x3=>impl_RowOk_L0 D n (fun v0_0=>impl_RowOk_x0_0 D n v0_0) (impl_RowOk_x0_1 D n) n x0 x1 x2 x3)
def impl_RowOk_e (D:DX)(n:Nat) (lp0:tVals→Int→Int→tSch→Option ((Bool×Unit)×Unit)) (a0:tSch) (a1:tVals):Option ((Bool×Unit)×Unit):=bindD (C_impl_SchemaOk D a0) fun b↦br (bif !Prod.fst (Prod.fst b) then true else (↑(List.length a1):Int) != (↑(List.length (Prod.fst a0)):Int)) (some ((false,()),())) (lp0 a1 (↑(List.length a1):Int) 0 a0)
def F_impl_RowOk (D:DX)(n:Nat) (a0:tSch) (a1:tVals):Option ((Bool×Unit)×Unit):=impl_RowOk_e D n (impl_RowOk_LP0 D n) a0 a1
def impl_RowOk_Q0 (x0:tVals) (x1:Int) (x2:Int) (x3:tSch):St:=stq 52 [(2,AV.addr 2 []),(19,AV.val (Ty.sl yV) x0),(20,avI x1),(21,avI x2)] [(2,Root.mk yS Mk.no x3 true)] 
def impl_RowOk_Q0_0 (v0_0:Bool):St:=stq 52 [(4,AV.val Ty.bool v0_0)] [] 
def impl_RowOk_Q0_1:St:=stq 52 [] [] 
theorem impl_RowOk_SB0 (D:DX)(n:Nat) (m:Nat) (K:Ex→St→Option (Out ctx 26)) (x0:tVals) (x1:Int) (x2:Int) (x3:tSch) :
  LQ funcTab D n 26 [.r,.r,.l,.r,.l] (m+1) (impl_RowOk_Q0 x0 x1 x2 x3) K=impl_RowOk_b0 D n (fun x0 x1 x2 x3=>LQ funcTab D n 26 [.r,.r,.l,.r,.l] m (impl_RowOk_Q0 x0 x1 x2 x3) K) (fun v0_0=>K (Ex.ret) (impl_RowOk_Q0_0 v0_0)) (K (Ex.exit 0) (impl_RowOk_Q0_1)) x0 x1 x2 x3:=by kernel_rfl
theorem impl_RowOk_EL0 (D:DX)(n:Nat) (K:Ex→St→Option (Out ctx 26)):∀ (m:Nat) (x0:tVals) (x1:Int) (x2:Int) (x3:tSch),LQ funcTab D n 26 [.r,.r,.l,.r,.l] m (impl_RowOk_Q0 x0 x1 x2 x3) K=impl_RowOk_L0 D n (fun v0_0=>K (Ex.ret) (impl_RowOk_Q0_0 v0_0)) (K (Ex.exit 0) (impl_RowOk_Q0_1)) m x0 x1 x2 x3
  | 0,x0,x1,x2,x3=>LQ_zero ..
  | m+1,x0,x1,x2,x3=>by
    have ih:(fun x0 x1 x2 x3=>LQ funcTab D n 26 [.r,.r,.l,.r,.l] m (impl_RowOk_Q0 x0 x1 x2 x3) K)=impl_RowOk_L0 D n (fun v0_0=>K (Ex.ret) (impl_RowOk_Q0_0 v0_0)) (K (Ex.exit 0) (impl_RowOk_Q0_1)) m:=by funext x0 x1 x2 x3;exact impl_RowOk_EL0 D n K m x0 x1 x2 x3
    rw[impl_RowOk_SB0]
    rw[ih];rfl
theorem impl_RowOk_X0_0 (D:DX)(n:Nat) (v0_0:Bool) :
  (CQ funcTab D n 26 [] [.r,.r,.l,.r,.l] (lastK funcTab 26)) (Ex.ret) (impl_RowOk_Q0_0 v0_0)=impl_RowOk_x0_0 D n v0_0:=by kernel_rfl
theorem impl_RowOk_X0_1 (D:DX)(n:Nat) :
  (CQ funcTab D n 26 [] [.r,.r,.l,.r,.l] (lastK funcTab 26)) (Ex.exit 0) (impl_RowOk_Q0_1)=impl_RowOk_x0_1 D n:=by kernel_rfl
theorem impl_RowOk_ELP0 (D:DX)(n:Nat) (x0:tVals) (x1:Int) (x2:Int) (x3:tSch) :
  LQ funcTab D n 26 [.r,.r,.l,.r,.l] n (impl_RowOk_Q0 x0 x1 x2 x3) (CQ funcTab D n 26 [] [.r,.r,.l,.r,.l] (lastK funcTab 26))=impl_RowOk_LP0 D n x0 x1 x2 x3:=by
  rw[impl_RowOk_EL0]
  simp only[impl_RowOk_X0_0,impl_RowOk_X0_1]
  rfl
theorem E_impl_RowOk (D:DX)(n:Nat) (a0:tSch) (a1:tVals):rfC funcTab D n 26 (a0,(a1,()))=F_impl_RowOk D n a0 a1:=by
  have h:rfC funcTab D n 26 (a0,(a1,()))=impl_RowOk_e D n (fun x0 x1 x2 x3=>LQ funcTab D n 26 [.r,.r,.l,.r,.l] n (impl_RowOk_Q0 x0 x1 x2 x3) (CQ funcTab D n 26 [] [.r,.r,.l,.r,.l] (lastK funcTab 26))) a0 a1:=by kernel_rfl
  rw[h]
  simp only[impl_RowOk_ELP0]
  rfl

def spec_RowOk_b0 (D:DX)(n:Nat) (go:tVals→Int→tSch→Option ((Bool×Unit)×Unit)) (K0:Bool→Option ((Bool×Unit)×Unit)) (K1:Option ((Bool×Unit)×Unit)) (x0:tVals) (x1:Int) (x2:tSch):Option ((Bool×Unit)×Unit):=br (decide (x1<(↑(List.length x0):Int))) (br (decide (0≤x1)&&decide (x1<(↑(List.length x0):Int))) (bindD (C_spec_ValueOk D (List.getD x0 (Int.toNat x1) (0,0,ByteArray.empty,()))) fun b↦br (!Prod.fst (Prod.fst b)) (K0 false) (br (decide (0≤x1)&&decide (x1<(↑(List.length x0):Int))) (br (decide (0≤x1)&&decide (x1<(↑(List.length (Prod.fst x2)):Int))) (br (Prod.fst (List.getD x0 (Int.toNat x1) (0,0,ByteArray.empty,())) != Prod.fst (Prod.snd (List.getD (Prod.fst x2) (Int.toNat x1) (ByteArray.empty,0,false,())))) (br (decide (0≤x1)&&decide (x1<(↑(List.length (Prod.fst x2)):Int))) (br (Prod.fst (Prod.snd (Prod.snd (List.getD (Prod.fst x2) (Int.toNat x1) (ByteArray.empty,0,false,()))))) (br (decide (0≤x1)&&decide (x1<(↑(List.length x0):Int))) (br (!decide (Prod.fst (List.getD x0 (Int.toNat x1) (0,0,ByteArray.empty,()))=0)) (K0 false) (go x0 (IntKind.wrap IntKind.i64 (x1+1)) x2)) none) (K0 false)) none) (go x0 (IntKind.wrap IntKind.i64 (x1+1)) x2)) none) none)) none) K1
def spec_RowOk_L0 (D:DX)(n:Nat) (K0:Bool→Option ((Bool×Unit)×Unit)) (K1:Option ((Bool×Unit)×Unit)):Nat→(tVals)→(Int)→(tSch)→Option ((Bool×Unit)×Unit) | 0=>(fun x0 x1 x2=>none) | m+1=>(fun x0 x1 x2=>spec_RowOk_b0 D n (spec_RowOk_L0 D n K0 K1 m) K0 K1 x0 x1 x2)
def spec_RowOk_x0_0 (D:DX)(n:Nat) (v0_0:Bool):Option ((Bool×Unit)×Unit):=some ((v0_0,()),())
def spec_RowOk_x0_1 (D:DX)(n:Nat):Option ((Bool×Unit)×Unit):=some ((true,()),())
def spec_RowOk_LP0 (D:DX)(n:Nat):(tVals)→(Int)→(tSch)→Option ((Bool×Unit)×Unit):=(fun x0 x1 x2=>spec_RowOk_L0 D n (fun v0_0=>spec_RowOk_x0_0 D n v0_0) (spec_RowOk_x0_1 D n) n x0 x1 x2)
def spec_RowOk_e (D:DX)(n:Nat) (lp0:tVals→Int→tSch→Option ((Bool×Unit)×Unit)) (a0:tSch) (a1:tVals):Option ((Bool×Unit)×Unit):=bindD (C_spec_SchemaOk D a0) fun b↦br (bif !Prod.fst (Prod.fst b) then true else (↑(List.length a1):Int) != (↑(List.length (Prod.fst a0)):Int)) (some ((false,()),())) (lp0 a1 0 a0)
def F_spec_RowOk (D:DX)(n:Nat) (a0:tSch) (a1:tVals):Option ((Bool×Unit)×Unit):=spec_RowOk_e D n (spec_RowOk_LP0 D n) a0 a1
def spec_RowOk_Q0 (x0:tVals) (x1:Int) (x2:tSch):St:=stq 60 [(1,AV.val (Ty.sl yV) x0),(2,AV.addr 2 []),(5,avI x1)] [(2,Root.mk yS Mk.no x2 true)] 
def spec_RowOk_Q0_0 (v0_0:Bool):St:=stq 60 [(4,AV.val Ty.bool v0_0)] [] 
def spec_RowOk_Q0_1:St:=stq 60 [] [] 
theorem spec_RowOk_SB0 (D:DX)(n:Nat) (m:Nat) (K:Ex→St→Option (Out ctx 27)) (x0:tVals) (x1:Int) (x2:tSch) :
  LQ funcTab D n 27 [.r,.r,.l,.r,.l] (m+1) (spec_RowOk_Q0 x0 x1 x2) K=spec_RowOk_b0 D n (fun x0 x1 x2=>LQ funcTab D n 27 [.r,.r,.l,.r,.l] m (spec_RowOk_Q0 x0 x1 x2) K) (fun v0_0=>K (Ex.ret) (spec_RowOk_Q0_0 v0_0)) (K (Ex.exit 0) (spec_RowOk_Q0_1)) x0 x1 x2:=by kernel_rfl
theorem spec_RowOk_EL0 (D:DX)(n:Nat) (K:Ex→St→Option (Out ctx 27)):∀ (m:Nat) (x0:tVals) (x1:Int) (x2:tSch),LQ funcTab D n 27 [.r,.r,.l,.r,.l] m (spec_RowOk_Q0 x0 x1 x2) K=spec_RowOk_L0 D n (fun v0_0=>K (Ex.ret) (spec_RowOk_Q0_0 v0_0)) (K (Ex.exit 0) (spec_RowOk_Q0_1)) m x0 x1 x2
  | 0,x0,x1,x2=>LQ_zero ..
  | m+1,x0,x1,x2=>by
    have ih:(fun x0 x1 x2=>LQ funcTab D n 27 [.r,.r,.l,.r,.l] m (spec_RowOk_Q0 x0 x1 x2) K)=spec_RowOk_L0 D n (fun v0_0=>K (Ex.ret) (spec_RowOk_Q0_0 v0_0)) (K (Ex.exit 0) (spec_RowOk_Q0_1)) m:=by funext x0 x1 x2;exact spec_RowOk_EL0 D n K m x0 x1 x2
    rw[spec_RowOk_SB0]
    rw[ih];rfl
theorem spec_RowOk_X0_0 (D:DX)(n:Nat) (v0_0:Bool) :
  (CQ funcTab D n 27 [] [.r,.r,.l,.r,.l] (lastK funcTab 27)) (Ex.ret) (spec_RowOk_Q0_0 v0_0)=spec_RowOk_x0_0 D n v0_0:=by kernel_rfl
theorem spec_RowOk_X0_1 (D:DX)(n:Nat) :
  (CQ funcTab D n 27 [] [.r,.r,.l,.r,.l] (lastK funcTab 27)) (Ex.exit 0) (spec_RowOk_Q0_1)=spec_RowOk_x0_1 D n:=by kernel_rfl
theorem spec_RowOk_ELP0 (D:DX)(n:Nat) (x0:tVals) (x1:Int) (x2:tSch) :
  LQ funcTab D n 27 [.r,.r,.l,.r,.l] n (spec_RowOk_Q0 x0 x1 x2) (CQ funcTab D n 27 [] [.r,.r,.l,.r,.l] (lastK funcTab 27))=spec_RowOk_LP0 D n x0 x1 x2:=by
  rw[spec_RowOk_EL0]
  simp only[spec_RowOk_X0_0,spec_RowOk_X0_1]
  rfl
theorem E_spec_RowOk (D:DX)(n:Nat) (a0:tSch) (a1:tVals):rfC funcTab D n 27 (a0,(a1,()))=F_spec_RowOk D n a0 a1:=by
  have h:rfC funcTab D n 27 (a0,(a1,()))=spec_RowOk_e D n (fun x0 x1 x2=>LQ funcTab D n 27 [.r,.r,.l,.r,.l] n (spec_RowOk_Q0 x0 x1 x2) (CQ funcTab D n 27 [] [.r,.r,.l,.r,.l] (lastK funcTab 27))) a0 a1:=by kernel_rfl
  rw[h]
  simp only[spec_RowOk_ELP0]
  rfl

def impl_ColNameOk_b0 (D:DX)(n:Nat) (go:ByteArray→Int→Int→Option ((Bool×Unit)×Unit)) (K0:ByteArray→Bool→Option ((Bool×Unit)×Unit)) (K1:ByteArray→Option ((Bool×Unit)×Unit)) (x0:ByteArray) (x1:Int) (x2:Int):Option ((Bool×Unit)×Unit):=br (decide (x2<x1)) (br (decide (0≤x2)&&decide (x2<(↑(ByteArray.size x0):Int))) (br (decide ((↑(UInt8.toNat (Array.getD (ByteArray.data x0) (Int.toNat x2) (UInt8.ofNat 0))):Int)<97)) (K0 x0 false) (br (decide (0≤x2)&&decide (x2<(↑(ByteArray.size x0):Int))) (br (decide ((↑(UInt8.toNat (Array.getD (ByteArray.data x0) (Int.toNat x2) (UInt8.ofNat 0))):Int)>122)) (K0 x0 false) (go x0 x1 (IntKind.wrap IntKind.i64 (x2+1)))) none)) none) (K1 x0)
def impl_ColNameOk_L0 (D:DX)(n:Nat) (K0:ByteArray→Bool→Option ((Bool×Unit)×Unit)) (K1:ByteArray→Option ((Bool×Unit)×Unit)):Nat→(ByteArray)→(Int)→(Int)→Option ((Bool×Unit)×Unit) | 0=>(fun x0 x1 x2=>none) | m+1=>(fun x0 x1 x2=>impl_ColNameOk_b0 D n (impl_ColNameOk_L0 D n K0 K1 m) K0 K1 x0 x1 x2)
def impl_ColNameOk_x0_0 (D:DX)(n:Nat) (v0_0:ByteArray) (v0_1:Bool):Option ((Bool×Unit)×Unit):=some ((v0_1,()),())
def impl_ColNameOk_x0_1 (D:DX)(n:Nat) (v1_0:ByteArray):Option ((Bool×Unit)×Unit):=bindD (C_impl_from D (↑(ByteArray.size v1_0):Int) 1 12) fun b↦some ((Prod.fst (Prod.fst b),()),())
def impl_ColNameOk_LP0 (D:DX)(n:Nat):(ByteArray)→(Int)→(Int)→Option ((Bool×Unit)×Unit):=(fun x0 x1 x2=>impl_ColNameOk_L0 D n (fun v0_0 v0_1=>impl_ColNameOk_x0_0 D n v0_0 v0_1) (fun v1_0=>impl_ColNameOk_x0_1 D n v1_0) n x0 x1 x2)
def impl_ColNameOk_e (D:DX)(n:Nat) (lp0:ByteArray→Int→Int→Option ((Bool×Unit)×Unit)) (a0:ByteArray):Option ((Bool×Unit)×Unit):=lp0 a0 (↑(ByteArray.size a0):Int) 0
def F_impl_ColNameOk (D:DX)(n:Nat) (a0:ByteArray):Option ((Bool×Unit)×Unit):=impl_ColNameOk_e D n (impl_ColNameOk_LP0 D n) a0
def impl_ColNameOk_Q0 (x0:ByteArray) (x1:Int) (x2:Int):St:=stq 23 [(0,AV.val Ty.str x0),(5,avI x1),(6,avI x2)] [] 
def impl_ColNameOk_Q0_0 (v0_0:ByteArray) (v0_1:Bool):St:=stq 23 [(0,AV.val Ty.str v0_0),(2,AV.val Ty.bool v0_1)] [] 
def impl_ColNameOk_Q0_1 (v1_0:ByteArray):St:=stq 23 [(0,AV.val Ty.str v1_0)] [] 
theorem impl_ColNameOk_SB0 (D:DX)(n:Nat) (m:Nat) (K:Ex→St→Option (Out ctx 28)) (x0:ByteArray) (x1:Int) (x2:Int) :
  LQ funcTab D n 28 [.r,.l,.r,.l] (m+1) (impl_ColNameOk_Q0 x0 x1 x2) K=impl_ColNameOk_b0 D n (fun x0 x1 x2=>LQ funcTab D n 28 [.r,.l,.r,.l] m (impl_ColNameOk_Q0 x0 x1 x2) K) (fun v0_0 v0_1=>K (Ex.ret) (impl_ColNameOk_Q0_0 v0_0 v0_1)) (fun v1_0=>K (Ex.exit 0) (impl_ColNameOk_Q0_1 v1_0)) x0 x1 x2:=by kernel_rfl
theorem impl_ColNameOk_EL0 (D:DX)(n:Nat) (K:Ex→St→Option (Out ctx 28)):∀ (m:Nat) (x0:ByteArray) (x1:Int) (x2:Int),LQ funcTab D n 28 [.r,.l,.r,.l] m (impl_ColNameOk_Q0 x0 x1 x2) K=impl_ColNameOk_L0 D n (fun v0_0 v0_1=>K (Ex.ret) (impl_ColNameOk_Q0_0 v0_0 v0_1)) (fun v1_0=>K (Ex.exit 0) (impl_ColNameOk_Q0_1 v1_0)) m x0 x1 x2
  | 0,x0,x1,x2=>LQ_zero ..
  | m+1,x0,x1,x2=>by
    have ih:(fun x0 x1 x2=>LQ funcTab D n 28 [.r,.l,.r,.l] m (impl_ColNameOk_Q0 x0 x1 x2) K)=impl_ColNameOk_L0 D n (fun v0_0 v0_1=>K (Ex.ret) (impl_ColNameOk_Q0_0 v0_0 v0_1)) (fun v1_0=>K (Ex.exit 0) (impl_ColNameOk_Q0_1 v1_0)) m:=by funext x0 x1 x2;exact impl_ColNameOk_EL0 D n K m x0 x1 x2
    rw[impl_ColNameOk_SB0]
    rw[ih];rfl
theorem impl_ColNameOk_X0_0 (D:DX)(n:Nat) (v0_0:ByteArray) (v0_1:Bool) :
  (CQ funcTab D n 28 [] [.r,.l,.r,.l] (lastK funcTab 28)) (Ex.ret) (impl_ColNameOk_Q0_0 v0_0 v0_1)=impl_ColNameOk_x0_0 D n v0_0 v0_1:=by kernel_rfl
theorem impl_ColNameOk_X0_1 (D:DX)(n:Nat) (v1_0:ByteArray) :
  (CQ funcTab D n 28 [] [.r,.l,.r,.l] (lastK funcTab 28)) (Ex.exit 0) (impl_ColNameOk_Q0_1 v1_0)=impl_ColNameOk_x0_1 D n v1_0:=by kernel_rfl
theorem impl_ColNameOk_ELP0 (D:DX)(n:Nat) (x0:ByteArray) (x1:Int) (x2:Int) :
  LQ funcTab D n 28 [.r,.l,.r,.l] n (impl_ColNameOk_Q0 x0 x1 x2) (CQ funcTab D n 28 [] [.r,.l,.r,.l] (lastK funcTab 28))=impl_ColNameOk_LP0 D n x0 x1 x2:=by
  rw[impl_ColNameOk_EL0]
  simp only[impl_ColNameOk_X0_0,impl_ColNameOk_X0_1]
  rfl
theorem E_impl_ColNameOk (D:DX)(n:Nat) (a0:ByteArray):rfC funcTab D n 28 (a0,())=F_impl_ColNameOk D n a0:=by
  have h:rfC funcTab D n 28 (a0,())=impl_ColNameOk_e D n (fun x0 x1 x2=>LQ funcTab D n 28 [.r,.l,.r,.l] n (impl_ColNameOk_Q0 x0 x1 x2) (CQ funcTab D n 28 [] [.r,.l,.r,.l] (lastK funcTab 28))) a0:=by kernel_rfl
  rw[h]
  simp only[impl_ColNameOk_ELP0]
  rfl

def spec_ColNameOk_b0 (D:DX)(n:Nat) (go:ByteArray→Int→Option ((Bool×Unit)×Unit)) (K0:ByteArray→Bool→Option ((Bool×Unit)×Unit)) (K1:ByteArray→Option ((Bool×Unit)×Unit)) (x0:ByteArray) (x1:Int):Option ((Bool×Unit)×Unit):=br (decide (x1<(↑(ByteArray.size x0):Int))) (br (decide (0≤x1)&&decide (x1<(↑(ByteArray.size x0):Int))) (br (decide ((↑(UInt8.toNat (Array.getD (ByteArray.data x0) (Int.toNat x1) (UInt8.ofNat 0))):Int)<97)) (K0 x0 false) (br (decide (0≤x1)&&decide (x1<(↑(ByteArray.size x0):Int))) (br (decide ((↑(UInt8.toNat (Array.getD (ByteArray.data x0) (Int.toNat x1) (UInt8.ofNat 0))):Int)>122)) (K0 x0 false) (go x0 (IntKind.wrap IntKind.i64 (x1+1)))) none)) none) (K1 x0)
def spec_ColNameOk_L0 (D:DX)(n:Nat) (K0:ByteArray→Bool→Option ((Bool×Unit)×Unit)) (K1:ByteArray→Option ((Bool×Unit)×Unit)):Nat→(ByteArray)→(Int)→Option ((Bool×Unit)×Unit) | 0=>(fun x0 x1=>none) | m+1=>(fun x0 x1=>spec_ColNameOk_b0 D n (spec_ColNameOk_L0 D n K0 K1 m) K0 K1 x0 x1)
def spec_ColNameOk_x0_0 (D:DX)(n:Nat) (v0_0:ByteArray) (v0_1:Bool):Option ((Bool×Unit)×Unit):=some ((v0_1,()),())
def spec_ColNameOk_x0_1 (D:DX)(n:Nat) (v1_0:ByteArray):Option ((Bool×Unit)×Unit):=bindD (C_spec_l1In D (↑(ByteArray.size v1_0):Int) 1 12) fun b↦some ((Prod.fst (Prod.fst b),()),())
def spec_ColNameOk_LP0 (D:DX)(n:Nat):(ByteArray)→(Int)→Option ((Bool×Unit)×Unit):=(fun x0 x1=>spec_ColNameOk_L0 D n (fun v0_0 v0_1=>spec_ColNameOk_x0_0 D n v0_0 v0_1) (fun v1_0=>spec_ColNameOk_x0_1 D n v1_0) n x0 x1)
def spec_ColNameOk_e (D:DX)(n:Nat) (lp0:ByteArray→Int→Option ((Bool×Unit)×Unit)) (a0:ByteArray):Option ((Bool×Unit)×Unit):=lp0 a0 0
def F_spec_ColNameOk (D:DX)(n:Nat) (a0:ByteArray):Option ((Bool×Unit)×Unit):=spec_ColNameOk_e D n (spec_ColNameOk_LP0 D n) a0
def spec_ColNameOk_Q0 (x0:ByteArray) (x1:Int):St:=stq 23 [(0,AV.val Ty.str x0),(3,avI x1)] [] 
def spec_ColNameOk_Q0_0 (v0_0:ByteArray) (v0_1:Bool):St:=stq 23 [(0,AV.val Ty.str v0_0),(2,AV.val Ty.bool v0_1)] [] 
def spec_ColNameOk_Q0_1 (v1_0:ByteArray):St:=stq 23 [(0,AV.val Ty.str v1_0)] [] 
theorem spec_ColNameOk_SB0 (D:DX)(n:Nat) (m:Nat) (K:Ex→St→Option (Out ctx 29)) (x0:ByteArray) (x1:Int) :
  LQ funcTab D n 29 [.r,.l,.r,.l] (m+1) (spec_ColNameOk_Q0 x0 x1) K=spec_ColNameOk_b0 D n (fun x0 x1=>LQ funcTab D n 29 [.r,.l,.r,.l] m (spec_ColNameOk_Q0 x0 x1) K) (fun v0_0 v0_1=>K (Ex.ret) (spec_ColNameOk_Q0_0 v0_0 v0_1)) (fun v1_0=>K (Ex.exit 0) (spec_ColNameOk_Q0_1 v1_0)) x0 x1:=by kernel_rfl
theorem spec_ColNameOk_EL0 (D:DX)(n:Nat) (K:Ex→St→Option (Out ctx 29)):∀ (m:Nat) (x0:ByteArray) (x1:Int),LQ funcTab D n 29 [.r,.l,.r,.l] m (spec_ColNameOk_Q0 x0 x1) K=spec_ColNameOk_L0 D n (fun v0_0 v0_1=>K (Ex.ret) (spec_ColNameOk_Q0_0 v0_0 v0_1)) (fun v1_0=>K (Ex.exit 0) (spec_ColNameOk_Q0_1 v1_0)) m x0 x1
  | 0,x0,x1=>LQ_zero ..
  | m+1,x0,x1=>by
    have ih:(fun x0 x1=>LQ funcTab D n 29 [.r,.l,.r,.l] m (spec_ColNameOk_Q0 x0 x1) K)=spec_ColNameOk_L0 D n (fun v0_0 v0_1=>K (Ex.ret) (spec_ColNameOk_Q0_0 v0_0 v0_1)) (fun v1_0=>K (Ex.exit 0) (spec_ColNameOk_Q0_1 v1_0)) m:=by funext x0 x1;exact spec_ColNameOk_EL0 D n K m x0 x1
    rw[spec_ColNameOk_SB0]
    rw[ih];rfl
theorem spec_ColNameOk_X0_0 (D:DX)(n:Nat) (v0_0:ByteArray) (v0_1:Bool) :
  (CQ funcTab D n 29 [] [.r,.l,.r,.l] (lastK funcTab 29)) (Ex.ret) (spec_ColNameOk_Q0_0 v0_0 v0_1)=spec_ColNameOk_x0_0 D n v0_0 v0_1:=by kernel_rfl
theorem spec_ColNameOk_X0_1 (D:DX)(n:Nat) (v1_0:ByteArray) :
  (CQ funcTab D n 29 [] [.r,.l,.r,.l] (lastK funcTab 29)) (Ex.exit 0) (spec_ColNameOk_Q0_1 v1_0)=spec_ColNameOk_x0_1 D n v1_0:=by kernel_rfl
theorem spec_ColNameOk_ELP0 (D:DX)(n:Nat) (x0:ByteArray) (x1:Int) :
  LQ funcTab D n 29 [.r,.l,.r,.l] n (spec_ColNameOk_Q0 x0 x1) (CQ funcTab D n 29 [] [.r,.l,.r,.l] (lastK funcTab 29))=spec_ColNameOk_LP0 D n x0 x1:=by
  rw[spec_ColNameOk_EL0]
  simp only[spec_ColNameOk_X0_0,spec_ColNameOk_X0_1]
  rfl
theorem E_spec_ColNameOk (D:DX)(n:Nat) (a0:ByteArray):rfC funcTab D n 29 (a0,())=F_spec_ColNameOk D n a0:=by
  have h:rfC funcTab D n 29 (a0,())=spec_ColNameOk_e D n (fun x0 x1=>LQ funcTab D n 29 [.r,.l,.r,.l] n (spec_ColNameOk_Q0 x0 x1) (CQ funcTab D n 29 [] [.r,.l,.r,.l] (lastK funcTab 29))) a0:=by kernel_rfl
  rw[h]
  simp only[spec_ColNameOk_ELP0]
  rfl

def impl_ColAt_e (D:DX)(n:Nat) (a0:tSch) (a1:ByteArray):Option ((Int×Unit)×Unit):=bindD (C_slices_IndexFunc_impl_Col_impl_Col D (Prod.fst a0) (Clo.mk 97 [CapV.rptr Ty.str a1])) fun b↦some ((Prod.fst (Prod.fst b),()),())
def F_impl_ColAt (D:DX)(n:Nat) (a0:tSch) (a1:ByteArray):Option ((Int×Unit)×Unit):=impl_ColAt_e D n a0 a1
theorem E_impl_ColAt (D:DX)(n:Nat) (a0:tSch) (a1:ByteArray):rfC funcTab D n 30 (a0,(a1,()))=F_impl_ColAt D n a0 a1:=by kernel_rfl

def spec_ColAt_b0 (D:DX)(n:Nat) (go:ByteArray→Int→tSch→Option ((Int×Unit)×Unit)) (K0:Int→Option ((Int×Unit)×Unit)) (K1:Option ((Int×Unit)×Unit)) (x0:ByteArray) (x1:Int) (x2:tSch):Option ((Int×Unit)×Unit):=br (decide (x1<(↑(List.length (Prod.fst x2)):Int))) (br (decide (0≤x1)&&decide (x1<(↑(List.length (Prod.fst x2)):Int))) (br (List.beq (ByteArray.toList (Prod.fst (List.getD (Prod.fst x2) (Int.toNat x1) (ByteArray.empty,0,false,())))) (ByteArray.toList x0)) (K0 x1) (go x0 (IntKind.wrap IntKind.i64 (x1+1)) x2)) none) K1
def spec_ColAt_L0 (D:DX)(n:Nat) (K0:Int→Option ((Int×Unit)×Unit)) (K1:Option ((Int×Unit)×Unit)):Nat→(ByteArray)→(Int)→(tSch)→Option ((Int×Unit)×Unit) | 0=>(fun x0 x1 x2=>none) | m+1=>(fun x0 x1 x2=>spec_ColAt_b0 D n (spec_ColAt_L0 D n K0 K1 m) K0 K1 x0 x1 x2)
def spec_ColAt_x0_0 (D:DX)(n:Nat) (v0_0:Int):Option ((Int×Unit)×Unit):=some ((v0_0,()),())
def spec_ColAt_x0_1 (D:DX)(n:Nat):Option ((Int×Unit)×Unit):=some ((-1,()),())
def spec_ColAt_LP0 (D:DX)(n:Nat):(ByteArray)→(Int)→(tSch)→Option ((Int×Unit)×Unit):=(fun x0 x1 x2=>spec_ColAt_L0 D n (fun v0_0=>spec_ColAt_x0_0 D n v0_0) (spec_ColAt_x0_1 D n) n x0 x1 x2)
def spec_ColAt_e (D:DX)(n:Nat) (lp0:ByteArray→Int→tSch→Option ((Int×Unit)×Unit)) (a0:tSch) (a1:ByteArray):Option ((Int×Unit)×Unit):=lp0 a1 0 a0
def F_spec_ColAt (D:DX)(n:Nat) (a0:tSch) (a1:ByteArray):Option ((Int×Unit)×Unit):=spec_ColAt_e D n (spec_ColAt_LP0 D n) a0 a1
def spec_ColAt_Q0 (x0:ByteArray) (x1:Int) (x2:tSch):St:=stq 22 [(1,AV.val Ty.str x0),(2,AV.addr 2 []),(5,avI x1)] [(2,Root.mk yS Mk.no x2 true)] 
def spec_ColAt_Q0_0 (v0_0:Int):St:=stq 22 [(4,avI v0_0)] [] 
def spec_ColAt_Q0_1:St:=stq 22 [] [] 
theorem spec_ColAt_SB0 (D:DX)(n:Nat) (m:Nat) (K:Ex→St→Option (Out ctx 31)) (x0:ByteArray) (x1:Int) (x2:tSch) :
  LQ funcTab D n 31 [.r,.l,.r,.l] (m+1) (spec_ColAt_Q0 x0 x1 x2) K=spec_ColAt_b0 D n (fun x0 x1 x2=>LQ funcTab D n 31 [.r,.l,.r,.l] m (spec_ColAt_Q0 x0 x1 x2) K) (fun v0_0=>K (Ex.ret) (spec_ColAt_Q0_0 v0_0)) (K (Ex.exit 0) (spec_ColAt_Q0_1)) x0 x1 x2:=by kernel_rfl
theorem spec_ColAt_EL0 (D:DX)(n:Nat) (K:Ex→St→Option (Out ctx 31)):∀ (m:Nat) (x0:ByteArray) (x1:Int) (x2:tSch),LQ funcTab D n 31 [.r,.l,.r,.l] m (spec_ColAt_Q0 x0 x1 x2) K=spec_ColAt_L0 D n (fun v0_0=>K (Ex.ret) (spec_ColAt_Q0_0 v0_0)) (K (Ex.exit 0) (spec_ColAt_Q0_1)) m x0 x1 x2
  | 0,x0,x1,x2=>LQ_zero ..
  | m+1,x0,x1,x2=>by
    have ih:(fun x0 x1 x2=>LQ funcTab D n 31 [.r,.l,.r,.l] m (spec_ColAt_Q0 x0 x1 x2) K)=spec_ColAt_L0 D n (fun v0_0=>K (Ex.ret) (spec_ColAt_Q0_0 v0_0)) (K (Ex.exit 0) (spec_ColAt_Q0_1)) m:=by funext x0 x1 x2;exact spec_ColAt_EL0 D n K m x0 x1 x2
    rw[spec_ColAt_SB0]
    rw[ih];rfl
theorem spec_ColAt_X0_0 (D:DX)(n:Nat) (v0_0:Int) :
  (CQ funcTab D n 31 [] [.r,.l,.r,.l] (lastK funcTab 31)) (Ex.ret) (spec_ColAt_Q0_0 v0_0)=spec_ColAt_x0_0 D n v0_0:=by kernel_rfl
theorem spec_ColAt_X0_1 (D:DX)(n:Nat) :
  (CQ funcTab D n 31 [] [.r,.l,.r,.l] (lastK funcTab 31)) (Ex.exit 0) (spec_ColAt_Q0_1)=spec_ColAt_x0_1 D n:=by kernel_rfl
theorem spec_ColAt_ELP0 (D:DX)(n:Nat) (x0:ByteArray) (x1:Int) (x2:tSch) :
  LQ funcTab D n 31 [.r,.l,.r,.l] n (spec_ColAt_Q0 x0 x1 x2) (CQ funcTab D n 31 [] [.r,.l,.r,.l] (lastK funcTab 31))=spec_ColAt_LP0 D n x0 x1 x2:=by
  rw[spec_ColAt_EL0]
  simp only[spec_ColAt_X0_0,spec_ColAt_X0_1]
  rfl
theorem E_spec_ColAt (D:DX)(n:Nat) (a0:tSch) (a1:ByteArray):rfC funcTab D n 31 (a0,(a1,()))=F_spec_ColAt D n a0 a1:=by
  have h:rfC funcTab D n 31 (a0,(a1,()))=spec_ColAt_e D n (fun x0 x1 x2=>LQ funcTab D n 31 [.r,.l,.r,.l] n (spec_ColAt_Q0 x0 x1 x2) (CQ funcTab D n 31 [] [.r,.l,.r,.l] (lastK funcTab 31))) a0 a1:=by kernel_rfl
  rw[h]
  simp only[spec_ColAt_ELP0]
  rfl

def impl_KeyOfRow_e (D:DX)(n:Nat) (a0:tSch) (a1:tVals):Option ((tVals×Unit)×Unit):=bindD (C_impl_Project D a1 (Prod.fst (Prod.snd a0))) fun b↦some ((Prod.fst (Prod.fst b),()),())
def F_impl_KeyOfRow (D:DX)(n:Nat) (a0:tSch) (a1:tVals):Option ((tVals×Unit)×Unit):=impl_KeyOfRow_e D n a0 a1
theorem E_impl_KeyOfRow (D:DX)(n:Nat) (a0:tSch) (a1:tVals):rfC funcTab D n 33 (a0,(a1,()))=F_impl_KeyOfRow D n a0 a1:=by kernel_rfl

def spec_KeyOfRow_e (D:DX)(n:Nat) (a0:tSch) (a1:tVals):Option ((tVals×Unit)×Unit):=bindD (C_spec_Project D a1 (Prod.fst (Prod.snd a0))) fun b↦some ((Prod.fst (Prod.fst b),()),())
def F_spec_KeyOfRow (D:DX)(n:Nat) (a0:tSch) (a1:tVals):Option ((tVals×Unit)×Unit):=spec_KeyOfRow_e D n a0 a1
theorem E_spec_KeyOfRow (D:DX)(n:Nat) (a0:tSch) (a1:tVals):rfC funcTab D n 34 (a0,(a1,()))=F_spec_KeyOfRow D n a0 a1:=by kernel_rfl

def impl_TupleOk_e (D:DX)(n:Nat) (a0:tVals):Option ((Bool×Unit)×Unit):=br (decide ((↑(List.length a0):Int)≤4)) (bindD (C_slices_ContainsFunc_impl_Value_impl_Value D a0 (Clo.mk 100 [])) fun b↦some ((!Prod.fst (Prod.fst b),()),())) (some ((false,()),()))
def F_impl_TupleOk (D:DX)(n:Nat) (a0:tVals):Option ((Bool×Unit)×Unit):=impl_TupleOk_e D n a0
theorem E_impl_TupleOk (D:DX)(n:Nat) (a0:tVals):rfC funcTab D n 35 (a0,())=F_impl_TupleOk D n a0:=by kernel_rfl

def laws_szValueS_b0 (D:DX)(n:Nat) (go:tVals→Int→Int→Option ((Int×Unit)×Unit)) (K0:Int→Int→Option ((Int×Unit)×Unit)) (K1:Int→Option ((Int×Unit)×Unit)) (x0:tVals) (x1:Int) (x2:Int):Option ((Int×Unit)×Unit):=br (decide (x2<(↑(List.length x0):Int))) (br (decide (0≤x2)&&decide (x2<(↑(List.length x0):Int))) (bindD (C_laws_szValue D (List.getD x0 (Int.toNat x2) (0,0,ByteArray.empty,())) x1) fun b↦br (decide (Prod.fst (Prod.fst b)<0)) (K0 (Prod.fst (Prod.fst b)) (-1)) (go x0 (Prod.fst (Prod.fst b)) (IntKind.wrap IntKind.i64 (x2+1)))) none) (K1 x1)
def laws_szValueS_L0 (D:DX)(n:Nat) (K0:Int→Int→Option ((Int×Unit)×Unit)) (K1:Int→Option ((Int×Unit)×Unit)):Nat→(tVals)→(Int)→(Int)→Option ((Int×Unit)×Unit) | 0=>(fun x0 x1 x2=>none) | m+1=>(fun x0 x1 x2=>laws_szValueS_b0 D n (laws_szValueS_L0 D n K0 K1 m) K0 K1 x0 x1 x2)
def laws_szValueS_x0_0 (D:DX)(n:Nat) (v0_0:Int) (v0_1:Int):Option ((Int×Unit)×Unit):=some ((v0_1,()),())
def laws_szValueS_x0_1 (D:DX)(n:Nat) (v1_0:Int):Option ((Int×Unit)×Unit):=some ((v1_0,()),())
def laws_szValueS_LP0 (D:DX)(n:Nat):(tVals)→(Int)→(Int)→Option ((Int×Unit)×Unit):=(fun x0 x1 x2=>laws_szValueS_L0 D n (fun v0_0 v0_1=>laws_szValueS_x0_0 D n v0_0 v0_1) (fun v1_0=>laws_szValueS_x0_1 D n v1_0) n x0 x1 x2)
def laws_szValueS_e (D:DX)(n:Nat) (lp0:tVals→Int→Int→Option ((Int×Unit)×Unit)) (a0:tVals) (a1:Int):Option ((Int×Unit)×Unit):=br (decide (IntKind.wrap IntKind.i64 (a1 - (↑(List.length a0):Int))<0)) (some ((-1,()),())) (lp0 a0 (IntKind.wrap IntKind.i64 (a1 - (↑(List.length a0):Int))) 0)
def F_laws_szValueS (D:DX)(n:Nat) (a0:tVals) (a1:Int):Option ((Int×Unit)×Unit):=laws_szValueS_e D n (laws_szValueS_LP0 D n) a0 a1
def laws_szValueS_Q0 (x0:tVals) (x1:Int) (x2:Int):St:=stq 27 [(0,AV.val (Ty.sl yV) x0),(1,avI x1),(5,avI x2)] [] 
def laws_szValueS_Q0_0 (v0_0:Int) (v0_1:Int):St:=stq 27 [(1,avI v0_0),(4,avI v0_1)] [] 
def laws_szValueS_Q0_1 (v1_0:Int):St:=stq 27 [(1,avI v1_0)] [] 
theorem laws_szValueS_SB0 (D:DX)(n:Nat) (m:Nat) (K:Ex→St→Option (Out ctx 36)) (x0:tVals) (x1:Int) (x2:Int) :
  LQ funcTab D n 36 [.r,.r,.r,.l,.r,.l] (m+1) (laws_szValueS_Q0 x0 x1 x2) K=laws_szValueS_b0 D n (fun x0 x1 x2=>LQ funcTab D n 36 [.r,.r,.r,.l,.r,.l] m (laws_szValueS_Q0 x0 x1 x2) K) (fun v0_0 v0_1=>K (Ex.ret) (laws_szValueS_Q0_0 v0_0 v0_1)) (fun v1_0=>K (Ex.exit 0) (laws_szValueS_Q0_1 v1_0)) x0 x1 x2:=by kernel_rfl
theorem laws_szValueS_EL0 (D:DX)(n:Nat) (K:Ex→St→Option (Out ctx 36)):∀ (m:Nat) (x0:tVals) (x1:Int) (x2:Int),LQ funcTab D n 36 [.r,.r,.r,.l,.r,.l] m (laws_szValueS_Q0 x0 x1 x2) K=laws_szValueS_L0 D n (fun v0_0 v0_1=>K (Ex.ret) (laws_szValueS_Q0_0 v0_0 v0_1)) (fun v1_0=>K (Ex.exit 0) (laws_szValueS_Q0_1 v1_0)) m x0 x1 x2
  | 0,x0,x1,x2=>LQ_zero ..
  | m+1,x0,x1,x2=>by
    have ih:(fun x0 x1 x2=>LQ funcTab D n 36 [.r,.r,.r,.l,.r,.l] m (laws_szValueS_Q0 x0 x1 x2) K)=laws_szValueS_L0 D n (fun v0_0 v0_1=>K (Ex.ret) (laws_szValueS_Q0_0 v0_0 v0_1)) (fun v1_0=>K (Ex.exit 0) (laws_szValueS_Q0_1 v1_0)) m:=by funext x0 x1 x2;exact laws_szValueS_EL0 D n K m x0 x1 x2
    rw[laws_szValueS_SB0]
    rw[ih];rfl
theorem laws_szValueS_X0_0 (D:DX)(n:Nat) (v0_0:Int) (v0_1:Int) :
  (CQ funcTab D n 36 [] [.r,.r,.r,.l,.r,.l] (lastK funcTab 36)) (Ex.ret) (laws_szValueS_Q0_0 v0_0 v0_1)=laws_szValueS_x0_0 D n v0_0 v0_1:=by kernel_rfl
theorem laws_szValueS_X0_1 (D:DX)(n:Nat) (v1_0:Int) :
  (CQ funcTab D n 36 [] [.r,.r,.r,.l,.r,.l] (lastK funcTab 36)) (Ex.exit 0) (laws_szValueS_Q0_1 v1_0)=laws_szValueS_x0_1 D n v1_0:=by kernel_rfl
theorem laws_szValueS_ELP0 (D:DX)(n:Nat) (x0:tVals) (x1:Int) (x2:Int) :
  LQ funcTab D n 36 [.r,.r,.r,.l,.r,.l] n (laws_szValueS_Q0 x0 x1 x2) (CQ funcTab D n 36 [] [.r,.r,.r,.l,.r,.l] (lastK funcTab 36))=laws_szValueS_LP0 D n x0 x1 x2:=by
  rw[laws_szValueS_EL0]
  simp only[laws_szValueS_X0_0,laws_szValueS_X0_1]
  rfl
theorem E_laws_szValueS (D:DX)(n:Nat) (a0:tVals) (a1:Int):rfC funcTab D n 36 (a0,(a1,()))=F_laws_szValueS D n a0 a1:=by
  have h:rfC funcTab D n 36 (a0,(a1,()))=laws_szValueS_e D n (fun x0 x1 x2=>LQ funcTab D n 36 [.r,.r,.r,.l,.r,.l] n (laws_szValueS_Q0 x0 x1 x2) (CQ funcTab D n 36 [] [.r,.r,.r,.l,.r,.l] (lastK funcTab 36))) a0 a1:=by kernel_rfl
  rw[h]
  simp only[laws_szValueS_ELP0]
  rfl

def laws_toValueS_b0 (D:DX)(n:Nat) (go:tVals→Int→tVals→Option ((tVals×Unit)×Unit)) (K0:tVals→Option ((tVals×Unit)×Unit)) (x0:tVals) (x1:Int) (x2:tVals):Option ((tVals×Unit)×Unit):=br (decide (x1<(↑(List.length x0):Int))) (br (decide (0≤x1)&&decide (x1<(↑(List.length x0):Int))) (bindD (C_laws_toValue D (List.getD x0 (Int.toNat x1) (0,0,ByteArray.empty,()))) fun b↦br (decide (0≤x1)&&decide (x1<(↑(List.length x2):Int))) (go x0 (IntKind.wrap IntKind.i64 (x1+1)) (List.set x2 (Int.toNat x1) (Prod.fst (Prod.fst b)))) none) none) (K0 x2)
def laws_toValueS_L0 (D:DX)(n:Nat) (K0:tVals→Option ((tVals×Unit)×Unit)):Nat→(tVals)→(Int)→(tVals)→Option ((tVals×Unit)×Unit) | 0=>(fun x0 x1 x2=>none) | m+1=>(fun x0 x1 x2=>laws_toValueS_b0 D n (laws_toValueS_L0 D n K0 m) K0 x0 x1 x2)
def laws_toValueS_x0_0 (D:DX)(n:Nat) (v0_0:tVals):Option ((tVals×Unit)×Unit):=some ((v0_0,()),())
def laws_toValueS_LP0 (D:DX)(n:Nat):(tVals)→(Int)→(tVals)→Option ((tVals×Unit)×Unit):=(fun x0 x1 x2=>laws_toValueS_L0 D n (fun v0_0=>laws_toValueS_x0_0 D n v0_0) n x0 x1 x2)
def laws_toValueS_e (D:DX)(n:Nat) (lp0:tVals→Int→tVals→Option ((tVals×Unit)×Unit)) (a0:tVals):Option ((tVals×Unit)×Unit):=br (decide (0≤(↑(List.length a0):Int))&&decide ((↑(List.length a0):Int)≤(↑(List.length a0):Int))&&decide ((↑(List.length a0):Int)≤(↑bound:Int))) (lp0 a0 0 (List.replicate (Int.toNat (↑(List.length a0):Int)) (0,0,ByteArray.empty,()))) none
def F_laws_toValueS (D:DX)(n:Nat) (a0:tVals):Option ((tVals×Unit)×Unit):=laws_toValueS_e D n (laws_toValueS_LP0 D n) a0
def laws_toValueS_Q0 (x0:tVals) (x1:Int) (x2:tVals):St:=stq 23 [(0,AV.val (Ty.sl yV) x0),(3,AV.brw 3 [] 0),(4,avI x1)] [(3,Root.mk (Ty.sl yV) (Mk.own 0 (Mk.pr Mk.no (Mk.pr Mk.no (Mk.pr Mk.no Mk.no)))) x2 false)] 
def laws_toValueS_Q0_0 (v0_0:tVals):St:=stq 23 [(3,AV.brw 3 [] 0)] [(3,Root.mk (Ty.sl yV) (Mk.own 0 (Mk.pr Mk.no (Mk.pr Mk.no (Mk.pr Mk.no Mk.no)))) v0_0 false)] 
theorem laws_toValueS_SB0 (D:DX)(n:Nat) (m:Nat) (K:Ex→St→Option (Out ctx 37)) (x0:tVals) (x1:Int) (x2:tVals) :
  LQ funcTab D n 37 [.r,.r,.l,.r,.l] (m+1) (laws_toValueS_Q0 x0 x1 x2) K=laws_toValueS_b0 D n (fun x0 x1 x2=>LQ funcTab D n 37 [.r,.r,.l,.r,.l] m (laws_toValueS_Q0 x0 x1 x2) K) (fun v0_0=>K (Ex.exit 0) (laws_toValueS_Q0_0 v0_0)) x0 x1 x2:=by kernel_rfl
theorem laws_toValueS_EL0 (D:DX)(n:Nat) (K:Ex→St→Option (Out ctx 37)):∀ (m:Nat) (x0:tVals) (x1:Int) (x2:tVals),LQ funcTab D n 37 [.r,.r,.l,.r,.l] m (laws_toValueS_Q0 x0 x1 x2) K=laws_toValueS_L0 D n (fun v0_0=>K (Ex.exit 0) (laws_toValueS_Q0_0 v0_0)) m x0 x1 x2
  | 0,x0,x1,x2=>LQ_zero ..
  | m+1,x0,x1,x2=>by
    have ih:(fun x0 x1 x2=>LQ funcTab D n 37 [.r,.r,.l,.r,.l] m (laws_toValueS_Q0 x0 x1 x2) K)=laws_toValueS_L0 D n (fun v0_0=>K (Ex.exit 0) (laws_toValueS_Q0_0 v0_0)) m:=by funext x0 x1 x2;exact laws_toValueS_EL0 D n K m x0 x1 x2
    rw[laws_toValueS_SB0]
    rw[ih];rfl
theorem laws_toValueS_X0_0 (D:DX)(n:Nat) (v0_0:tVals) :
  (CQ funcTab D n 37 [] [.r,.r,.l,.r,.l] (lastK funcTab 37)) (Ex.exit 0) (laws_toValueS_Q0_0 v0_0)=laws_toValueS_x0_0 D n v0_0:=by kernel_rfl
theorem laws_toValueS_ELP0 (D:DX)(n:Nat) (x0:tVals) (x1:Int) (x2:tVals) :
  LQ funcTab D n 37 [.r,.r,.l,.r,.l] n (laws_toValueS_Q0 x0 x1 x2) (CQ funcTab D n 37 [] [.r,.r,.l,.r,.l] (lastK funcTab 37))=laws_toValueS_LP0 D n x0 x1 x2:=by
  rw[laws_toValueS_EL0]
  simp only[laws_toValueS_X0_0]
  rfl
theorem E_laws_toValueS (D:DX)(n:Nat) (a0:tVals):rfC funcTab D n 37 (a0,())=F_laws_toValueS D n a0:=by
  have h:rfC funcTab D n 37 (a0,())=laws_toValueS_e D n (fun x0 x1 x2=>LQ funcTab D n 37 [.r,.r,.l,.r,.l] n (laws_toValueS_Q0 x0 x1 x2) (CQ funcTab D n 37 [] [.r,.r,.l,.r,.l] (lastK funcTab 37))) a0:=by kernel_rfl
  rw[h]
  simp only[laws_toValueS_ELP0]
  rfl

def laws_eqValueS_b0 (D:DX)(n:Nat) (go:tVals→tVals→Int→Option ((Bool×Unit)×Unit)) (K0:Bool→Option ((Bool×Unit)×Unit)) (K1:Option ((Bool×Unit)×Unit)) (x0:tVals) (x1:tVals) (x2:Int):Option ((Bool×Unit)×Unit):=br (decide (x2<(↑(List.length x0):Int))) (br (decide (0≤x2)&&decide (x2<(↑(List.length x0):Int))) (br (decide (0≤x2)&&decide (x2<(↑(List.length x1):Int))) (bindD (C_laws_eqValue D (List.getD x0 (Int.toNat x2) (0,0,ByteArray.empty,())) (List.getD x1 (Int.toNat x2) (0,0,ByteArray.empty,()))) fun b↦br (!Prod.fst (Prod.fst b)) (K0 false) (go x0 x1 (IntKind.wrap IntKind.i64 (x2+1)))) none) none) K1
def laws_eqValueS_L0 (D:DX)(n:Nat) (K0:Bool→Option ((Bool×Unit)×Unit)) (K1:Option ((Bool×Unit)×Unit)):Nat→(tVals)→(tVals)→(Int)→Option ((Bool×Unit)×Unit) | 0=>(fun x0 x1 x2=>none) | m+1=>(fun x0 x1 x2=>laws_eqValueS_b0 D n (laws_eqValueS_L0 D n K0 K1 m) K0 K1 x0 x1 x2)
def laws_eqValueS_x0_0 (D:DX)(n:Nat) (v0_0:Bool):Option ((Bool×Unit)×Unit):=some ((v0_0,()),())
def laws_eqValueS_x0_1 (D:DX)(n:Nat):Option ((Bool×Unit)×Unit):=some ((true,()),())
def laws_eqValueS_LP0 (D:DX)(n:Nat):(tVals)→(tVals)→(Int)→Option ((Bool×Unit)×Unit):=(fun x0 x1 x2=>laws_eqValueS_L0 D n (fun v0_0=>laws_eqValueS_x0_0 D n v0_0) (laws_eqValueS_x0_1 D n) n x0 x1 x2)
def laws_eqValueS_e (D:DX)(n:Nat) (lp0:tVals→tVals→Int→Option ((Bool×Unit)×Unit)) (a0:tVals) (a1:tVals):Option ((Bool×Unit)×Unit):=br ((↑(List.length a0):Int) != (↑(List.length a1):Int)) (some ((false,()),())) (lp0 a0 a1 0)
def F_laws_eqValueS (D:DX)(n:Nat) (a0:tVals) (a1:tVals):Option ((Bool×Unit)×Unit):=laws_eqValueS_e D n (laws_eqValueS_LP0 D n) a0 a1
def laws_eqValueS_Q0 (x0:tVals) (x1:tVals) (x2:Int):St:=stq 27 [(0,AV.val (Ty.sl yV) x0),(1,AV.val (Ty.sl yV) x1),(5,avI x2)] [] 
def laws_eqValueS_Q0_0 (v0_0:Bool):St:=stq 27 [(4,AV.val Ty.bool v0_0)] [] 
def laws_eqValueS_Q0_1:St:=stq 27 [] [] 
theorem laws_eqValueS_SB0 (D:DX)(n:Nat) (m:Nat) (K:Ex→St→Option (Out ctx 38)) (x0:tVals) (x1:tVals) (x2:Int) :
  LQ funcTab D n 38 [.r,.r,.l,.r,.l] (m+1) (laws_eqValueS_Q0 x0 x1 x2) K=laws_eqValueS_b0 D n (fun x0 x1 x2=>LQ funcTab D n 38 [.r,.r,.l,.r,.l] m (laws_eqValueS_Q0 x0 x1 x2) K) (fun v0_0=>K (Ex.ret) (laws_eqValueS_Q0_0 v0_0)) (K (Ex.exit 0) (laws_eqValueS_Q0_1)) x0 x1 x2:=by kernel_rfl
theorem laws_eqValueS_EL0 (D:DX)(n:Nat) (K:Ex→St→Option (Out ctx 38)):∀ (m:Nat) (x0:tVals) (x1:tVals) (x2:Int),LQ funcTab D n 38 [.r,.r,.l,.r,.l] m (laws_eqValueS_Q0 x0 x1 x2) K=laws_eqValueS_L0 D n (fun v0_0=>K (Ex.ret) (laws_eqValueS_Q0_0 v0_0)) (K (Ex.exit 0) (laws_eqValueS_Q0_1)) m x0 x1 x2
  | 0,x0,x1,x2=>LQ_zero ..
  | m+1,x0,x1,x2=>by
    have ih:(fun x0 x1 x2=>LQ funcTab D n 38 [.r,.r,.l,.r,.l] m (laws_eqValueS_Q0 x0 x1 x2) K)=laws_eqValueS_L0 D n (fun v0_0=>K (Ex.ret) (laws_eqValueS_Q0_0 v0_0)) (K (Ex.exit 0) (laws_eqValueS_Q0_1)) m:=by funext x0 x1 x2;exact laws_eqValueS_EL0 D n K m x0 x1 x2
    rw[laws_eqValueS_SB0]
    rw[ih];rfl
theorem laws_eqValueS_X0_0 (D:DX)(n:Nat) (v0_0:Bool) :
  (CQ funcTab D n 38 [] [.r,.r,.l,.r,.l] (lastK funcTab 38)) (Ex.ret) (laws_eqValueS_Q0_0 v0_0)=laws_eqValueS_x0_0 D n v0_0:=by kernel_rfl
theorem laws_eqValueS_X0_1 (D:DX)(n:Nat) :
  (CQ funcTab D n 38 [] [.r,.r,.l,.r,.l] (lastK funcTab 38)) (Ex.exit 0) (laws_eqValueS_Q0_1)=laws_eqValueS_x0_1 D n:=by kernel_rfl
theorem laws_eqValueS_ELP0 (D:DX)(n:Nat) (x0:tVals) (x1:tVals) (x2:Int) :
  LQ funcTab D n 38 [.r,.r,.l,.r,.l] n (laws_eqValueS_Q0 x0 x1 x2) (CQ funcTab D n 38 [] [.r,.r,.l,.r,.l] (lastK funcTab 38))=laws_eqValueS_LP0 D n x0 x1 x2:=by
  rw[laws_eqValueS_EL0]
  simp only[laws_eqValueS_X0_0,laws_eqValueS_X0_1]
  rfl
theorem E_laws_eqValueS (D:DX)(n:Nat) (a0:tVals) (a1:tVals):rfC funcTab D n 38 (a0,(a1,()))=F_laws_eqValueS D n a0 a1:=by
  have h:rfC funcTab D n 38 (a0,(a1,()))=laws_eqValueS_e D n (fun x0 x1 x2=>LQ funcTab D n 38 [.r,.r,.l,.r,.l] n (laws_eqValueS_Q0 x0 x1 x2) (CQ funcTab D n 38 [] [.r,.r,.l,.r,.l] (lastK funcTab 38))) a0 a1:=by kernel_rfl
  rw[h]
  simp only[laws_eqValueS_ELP0]
  rfl

def laws_markSchema_e (D:DX)(n:Nat) (a0:tSch) (a1:Int):Option ((Int×Unit)×(tSch)×Unit):=bindD (C_laws_markColS D (Prod.fst a0) a1) fun b↦bindD (C_laws_markIntS D (Prod.fst (Prod.snd a0)) (Prod.fst (Prod.fst b))) fun b_1↦bindD (C_laws_markIndexS D (Prod.fst (Prod.snd (Prod.snd a0))) (Prod.fst (Prod.fst b_1))) fun b_2↦some ((Prod.fst (Prod.fst b_2),()),(Prod.fst (Prod.snd b),Prod.fst (Prod.snd b_1),Prod.fst (Prod.snd b_2),()),())
def F_laws_markSchema (D:DX)(n:Nat) (a0:tSch) (a1:Int):Option ((Int×Unit)×(tSch)×Unit):=laws_markSchema_e D n a0 a1
theorem E_laws_markSchema (D:DX)(n:Nat) (a0:tSch) (a1:Int):rfC funcTab D n 39 (a0,(a1,()))=F_laws_markSchema D n a0 a1:=by kernel_rfl

def laws_markValueS_b0 (D:DX)(n:Nat) (go:Int→Int→tVals→Option ((Int×Unit)×tVals×Unit)) (K0:Int→tVals→Option ((Int×Unit)×tVals×Unit)) (x0:Int) (x1:Int) (x2:tVals):Option ((Int×Unit)×tVals×Unit):=br (decide (x1<(↑(List.length x2):Int))) (br (decide (0≤x1)&&decide (x1<(↑(List.length x2):Int))) (br (decide (0≤x1)&&decide (x1<(↑(List.length (List.set x2 (Int.toNat x1) (x0,Prod.snd (List.getD x2 (Int.toNat x1) (0,0,ByteArray.empty,()))))):Int))) (bindD (C_laws_markText D (IntKind.wrap IntKind.i64 (IntKind.wrap IntKind.i64 (x0+1)+1))) fun b↦br (decide (0≤x1)&&decide (x1<(↑(List.length (List.set (List.set x2 (Int.toNat x1) (x0,Prod.snd (List.getD x2 (Int.toNat x1) (0,0,ByteArray.empty,())))) (Int.toNat x1) (Prod.fst (List.getD (List.set x2 (Int.toNat x1) (x0,Prod.snd (List.getD x2 (Int.toNat x1) (0,0,ByteArray.empty,())))) (Int.toNat x1) (0,0,ByteArray.empty,())),IntKind.wrap IntKind.i64 (x0+1),Prod.snd (Prod.snd (List.getD (List.set x2 (Int.toNat x1) (x0,Prod.snd (List.getD x2 (Int.toNat x1) (0,0,ByteArray.empty,())))) (Int.toNat x1) (0,0,ByteArray.empty,())))))):Int))) (go (IntKind.wrap IntKind.i64 (IntKind.wrap IntKind.i64 (IntKind.wrap IntKind.i64 (x0+1)+1)+1)) (IntKind.wrap IntKind.i64 (x1+1)) (List.set (List.set (List.set x2 (Int.toNat x1) (x0,Prod.snd (List.getD x2 (Int.toNat x1) (0,0,ByteArray.empty,())))) (Int.toNat x1) (Prod.fst (List.getD (List.set x2 (Int.toNat x1) (x0,Prod.snd (List.getD x2 (Int.toNat x1) (0,0,ByteArray.empty,())))) (Int.toNat x1) (0,0,ByteArray.empty,())),IntKind.wrap IntKind.i64 (x0+1),Prod.snd (Prod.snd (List.getD (List.set x2 (Int.toNat x1) (x0,Prod.snd (List.getD x2 (Int.toNat x1) (0,0,ByteArray.empty,())))) (Int.toNat x1) (0,0,ByteArray.empty,()))))) (Int.toNat x1) (Prod.fst (List.getD (List.set (List.set x2 (Int.toNat x1) (x0,Prod.snd (List.getD x2 (Int.toNat x1) (0,0,ByteArray.empty,())))) (Int.toNat x1) (Prod.fst (List.getD (List.set x2 (Int.toNat x1) (x0,Prod.snd (List.getD x2 (Int.toNat x1) (0,0,ByteArray.empty,())))) (Int.toNat x1) (0,0,ByteArray.empty,())),IntKind.wrap IntKind.i64 (x0+1),Prod.snd (Prod.snd (List.getD (List.set x2 (Int.toNat x1) (x0,Prod.snd (List.getD x2 (Int.toNat x1) (0,0,ByteArray.empty,())))) (Int.toNat x1) (0,0,ByteArray.empty,()))))) (Int.toNat x1) (0,0,ByteArray.empty,())),Prod.fst (Prod.snd (List.getD (List.set (List.set x2 (Int.toNat x1) (x0,Prod.snd (List.getD x2 (Int.toNat x1) (0,0,ByteArray.empty,())))) (Int.toNat x1) (Prod.fst (List.getD (List.set x2 (Int.toNat x1) (x0,Prod.snd (List.getD x2 (Int.toNat x1) (0,0,ByteArray.empty,())))) (Int.toNat x1) (0,0,ByteArray.empty,())),IntKind.wrap IntKind.i64 (x0+1),Prod.snd (Prod.snd (List.getD (List.set x2 (Int.toNat x1) (x0,Prod.snd (List.getD x2 (Int.toNat x1) (0,0,ByteArray.empty,())))) (Int.toNat x1) (0,0,ByteArray.empty,()))))) (Int.toNat x1) (0,0,ByteArray.empty,()))),Prod.fst (Prod.fst b),Prod.snd (Prod.snd (Prod.snd (List.getD (List.set (List.set x2 (Int.toNat x1) (x0,Prod.snd (List.getD x2 (Int.toNat x1) (0,0,ByteArray.empty,())))) (Int.toNat x1) (Prod.fst (List.getD (List.set x2 (Int.toNat x1) (x0,Prod.snd (List.getD x2 (Int.toNat x1) (0,0,ByteArray.empty,())))) (Int.toNat x1) (0,0,ByteArray.empty,())),IntKind.wrap IntKind.i64 (x0+1),Prod.snd (Prod.snd (List.getD (List.set x2 (Int.toNat x1) (x0,Prod.snd (List.getD x2 (Int.toNat x1) (0,0,ByteArray.empty,())))) (Int.toNat x1) (0,0,ByteArray.empty,()))))) (Int.toNat x1) (0,0,ByteArray.empty,()))))))) none) none) none) (K0 x0 x2)
def laws_markValueS_L0 (D:DX)(n:Nat) (K0:Int→tVals→Option ((Int×Unit)×tVals×Unit)):Nat→(Int)→(Int)→(tVals)→Option ((Int×Unit)×tVals×Unit) | 0=>(fun x0 x1 x2=>none) | m+1=>(fun x0 x1 x2=>laws_markValueS_b0 D n (laws_markValueS_L0 D n K0 m) K0 x0 x1 x2)
def laws_markValueS_x0_0 (D:DX)(n:Nat) (v0_0:Int) (v0_1:tVals):Option ((Int×Unit)×tVals×Unit):=some ((v0_0,()),v0_1,())
def laws_markValueS_LP0 (D:DX)(n:Nat):(Int)→(Int)→(tVals)→Option ((Int×Unit)×tVals×Unit):=(fun x0 x1 x2=>laws_markValueS_L0 D n (fun v0_0 v0_1=>laws_markValueS_x0_0 D n v0_0 v0_1) n x0 x1 x2)
def laws_markValueS_e (D:DX)(n:Nat) (lp0:Int→Int→tVals→Option ((Int×Unit)×tVals×Unit)) (a0:tVals) (a1:Int):Option ((Int×Unit)×tVals×Unit):=lp0 a1 0 a0
def F_laws_markValueS (D:DX)(n:Nat) (a0:tVals) (a1:Int):Option ((Int×Unit)×tVals×Unit):=laws_markValueS_e D n (laws_markValueS_LP0 D n) a0 a1
def laws_markValueS_Q0 (x0:Int) (x1:Int) (x2:tVals):St:=stq 35 [(0,AV.brw 0 [] 1048576),(1,avI x0),(5,avI x1)] [(0,Root.mk (Ty.sl yV) (Mk.own 1048576 (Mk.pr Mk.no (Mk.pr Mk.no (Mk.pr Mk.no Mk.no)))) x2 false)] 
def laws_markValueS_Q0_0 (v0_0:Int) (v0_1:tVals):St:=stq 35 [(0,AV.brw 0 [] 1048576),(1,avI v0_0)] [(0,Root.mk (Ty.sl yV) (Mk.own 1048576 (Mk.pr Mk.no (Mk.pr Mk.no (Mk.pr Mk.no Mk.no)))) v0_1 false)] 
theorem laws_markValueS_SB0 (D:DX)(n:Nat) (m:Nat) (K:Ex→St→Option (Out ctx 40)) (x0:Int) (x1:Int) (x2:tVals) :
  LQ funcTab D n 40 [.r,.l,.r,.l] (m+1) (laws_markValueS_Q0 x0 x1 x2) K=laws_markValueS_b0 D n (fun x0 x1 x2=>LQ funcTab D n 40 [.r,.l,.r,.l] m (laws_markValueS_Q0 x0 x1 x2) K) (fun v0_0 v0_1=>K (Ex.exit 0) (laws_markValueS_Q0_0 v0_0 v0_1)) x0 x1 x2:=by kernel_rfl
theorem laws_markValueS_EL0 (D:DX)(n:Nat) (K:Ex→St→Option (Out ctx 40)):∀ (m:Nat) (x0:Int) (x1:Int) (x2:tVals),LQ funcTab D n 40 [.r,.l,.r,.l] m (laws_markValueS_Q0 x0 x1 x2) K=laws_markValueS_L0 D n (fun v0_0 v0_1=>K (Ex.exit 0) (laws_markValueS_Q0_0 v0_0 v0_1)) m x0 x1 x2
  | 0,x0,x1,x2=>LQ_zero ..
  | m+1,x0,x1,x2=>by
    have ih:(fun x0 x1 x2=>LQ funcTab D n 40 [.r,.l,.r,.l] m (laws_markValueS_Q0 x0 x1 x2) K)=laws_markValueS_L0 D n (fun v0_0 v0_1=>K (Ex.exit 0) (laws_markValueS_Q0_0 v0_0 v0_1)) m:=by funext x0 x1 x2;exact laws_markValueS_EL0 D n K m x0 x1 x2
    rw[laws_markValueS_SB0]
    rw[ih];rfl
theorem laws_markValueS_X0_0 (D:DX)(n:Nat) (v0_0:Int) (v0_1:tVals) :
  (CQ funcTab D n 40 [] [.r,.l,.r,.l] (lastK funcTab 40)) (Ex.exit 0) (laws_markValueS_Q0_0 v0_0 v0_1)=laws_markValueS_x0_0 D n v0_0 v0_1:=by kernel_rfl
theorem laws_markValueS_ELP0 (D:DX)(n:Nat) (x0:Int) (x1:Int) (x2:tVals) :
  LQ funcTab D n 40 [.r,.l,.r,.l] n (laws_markValueS_Q0 x0 x1 x2) (CQ funcTab D n 40 [] [.r,.l,.r,.l] (lastK funcTab 40))=laws_markValueS_LP0 D n x0 x1 x2:=by
  rw[laws_markValueS_EL0]
  simp only[laws_markValueS_X0_0]
  rfl
theorem E_laws_markValueS (D:DX)(n:Nat) (a0:tVals) (a1:Int):rfC funcTab D n 40 (a0,(a1,()))=F_laws_markValueS D n a0 a1:=by
  have h:rfC funcTab D n 40 (a0,(a1,()))=laws_markValueS_e D n (fun x0 x1 x2=>LQ funcTab D n 40 [.r,.l,.r,.l] n (laws_markValueS_Q0 x0 x1 x2) (CQ funcTab D n 40 [] [.r,.l,.r,.l] (lastK funcTab 40))) a0 a1:=by kernel_rfl
  rw[h]
  simp only[laws_markValueS_ELP0]
  rfl

def laws_heldValueS_b0 (D:DX)(n:Nat) (go:tVals→Int→Int→Option ((Int×Unit)×Unit)) (K0:Int→Int→Option ((Int×Unit)×Unit)) (K1:Int→Option ((Int×Unit)×Unit)) (x0:tVals) (x1:Int) (x2:Int):Option ((Int×Unit)×Unit):=br (decide (x2<(↑(List.length x0):Int))) (br (decide (0≤x2)&&decide (x2<(↑(List.length x0):Int))) (br (Prod.fst (List.getD x0 (Int.toNat x2) (0,0,ByteArray.empty,())) != x1) (K0 x1 (-1)) (br (decide (0≤x2)&&decide (x2<(↑(List.length x0):Int))) (br (Prod.fst (Prod.snd (List.getD x0 (Int.toNat x2) (0,0,ByteArray.empty,()))) != IntKind.wrap IntKind.i64 (x1+1)) (K0 (IntKind.wrap IntKind.i64 (x1+1)) (-1)) (br (decide (0≤x2)&&decide (x2<(↑(List.length x0):Int))) (bindD (C_laws_markText D (IntKind.wrap IntKind.i64 (IntKind.wrap IntKind.i64 (x1+1)+1))) fun b↦br (!List.beq (ByteArray.toList (Prod.fst (Prod.snd (Prod.snd (List.getD x0 (Int.toNat x2) (0,0,ByteArray.empty,())))))) (ByteArray.toList (Prod.fst (Prod.fst b)))) (K0 (IntKind.wrap IntKind.i64 (IntKind.wrap IntKind.i64 (x1+1)+1)) (-1)) (go x0 (IntKind.wrap IntKind.i64 (IntKind.wrap IntKind.i64 (IntKind.wrap IntKind.i64 (x1+1)+1)+1)) (IntKind.wrap IntKind.i64 (x2+1)))) none)) none)) none) (K1 x1)
def laws_heldValueS_L0 (D:DX)(n:Nat) (K0:Int→Int→Option ((Int×Unit)×Unit)) (K1:Int→Option ((Int×Unit)×Unit)):Nat→(tVals)→(Int)→(Int)→Option ((Int×Unit)×Unit) | 0=>(fun x0 x1 x2=>none) | m+1=>(fun x0 x1 x2=>laws_heldValueS_b0 D n (laws_heldValueS_L0 D n K0 K1 m) K0 K1 x0 x1 x2)
def laws_heldValueS_x0_0 (D:DX)(n:Nat) (v0_0:Int) (v0_1:Int):Option ((Int×Unit)×Unit):=some ((v0_1,()),())
def laws_heldValueS_x0_1 (D:DX)(n:Nat) (v1_0:Int):Option ((Int×Unit)×Unit):=some ((v1_0,()),())
def laws_heldValueS_LP0 (D:DX)(n:Nat):(tVals)→(Int)→(Int)→Option ((Int×Unit)×Unit):=(fun x0 x1 x2=>laws_heldValueS_L0 D n (fun v0_0 v0_1=>laws_heldValueS_x0_0 D n v0_0 v0_1) (fun v1_0=>laws_heldValueS_x0_1 D n v1_0) n x0 x1 x2)
def laws_heldValueS_e (D:DX)(n:Nat) (lp0:tVals→Int→Int→Option ((Int×Unit)×Unit)) (a0:tVals) (a1:Int):Option ((Int×Unit)×Unit):=lp0 a0 a1 0
def F_laws_heldValueS (D:DX)(n:Nat) (a0:tVals) (a1:Int):Option ((Int×Unit)×Unit):=laws_heldValueS_e D n (laws_heldValueS_LP0 D n) a0 a1
def laws_heldValueS_Q0 (x0:tVals) (x1:Int) (x2:Int):St:=stq 41 [(0,AV.val (Ty.sl yV) x0),(1,avI x1),(5,avI x2)] [] 
def laws_heldValueS_Q0_0 (v0_0:Int) (v0_1:Int):St:=stq 41 [(1,avI v0_0),(4,avI v0_1)] [] 
def laws_heldValueS_Q0_1 (v1_0:Int):St:=stq 41 [(1,avI v1_0)] [] 
theorem laws_heldValueS_SB0 (D:DX)(n:Nat) (m:Nat) (K:Ex→St→Option (Out ctx 41)) (x0:tVals) (x1:Int) (x2:Int) :
  LQ funcTab D n 41 [.r,.l,.r,.l] (m+1) (laws_heldValueS_Q0 x0 x1 x2) K=laws_heldValueS_b0 D n (fun x0 x1 x2=>LQ funcTab D n 41 [.r,.l,.r,.l] m (laws_heldValueS_Q0 x0 x1 x2) K) (fun v0_0 v0_1=>K (Ex.ret) (laws_heldValueS_Q0_0 v0_0 v0_1)) (fun v1_0=>K (Ex.exit 0) (laws_heldValueS_Q0_1 v1_0)) x0 x1 x2:=by kernel_rfl
theorem laws_heldValueS_EL0 (D:DX)(n:Nat) (K:Ex→St→Option (Out ctx 41)):∀ (m:Nat) (x0:tVals) (x1:Int) (x2:Int),LQ funcTab D n 41 [.r,.l,.r,.l] m (laws_heldValueS_Q0 x0 x1 x2) K=laws_heldValueS_L0 D n (fun v0_0 v0_1=>K (Ex.ret) (laws_heldValueS_Q0_0 v0_0 v0_1)) (fun v1_0=>K (Ex.exit 0) (laws_heldValueS_Q0_1 v1_0)) m x0 x1 x2
  | 0,x0,x1,x2=>LQ_zero ..
  | m+1,x0,x1,x2=>by
    have ih:(fun x0 x1 x2=>LQ funcTab D n 41 [.r,.l,.r,.l] m (laws_heldValueS_Q0 x0 x1 x2) K)=laws_heldValueS_L0 D n (fun v0_0 v0_1=>K (Ex.ret) (laws_heldValueS_Q0_0 v0_0 v0_1)) (fun v1_0=>K (Ex.exit 0) (laws_heldValueS_Q0_1 v1_0)) m:=by funext x0 x1 x2;exact laws_heldValueS_EL0 D n K m x0 x1 x2
    rw[laws_heldValueS_SB0]
    rw[ih];rfl
theorem laws_heldValueS_X0_0 (D:DX)(n:Nat) (v0_0:Int) (v0_1:Int) :
  (CQ funcTab D n 41 [] [.r,.l,.r,.l] (lastK funcTab 41)) (Ex.ret) (laws_heldValueS_Q0_0 v0_0 v0_1)=laws_heldValueS_x0_0 D n v0_0 v0_1:=by kernel_rfl
theorem laws_heldValueS_X0_1 (D:DX)(n:Nat) (v1_0:Int) :
  (CQ funcTab D n 41 [] [.r,.l,.r,.l] (lastK funcTab 41)) (Ex.exit 0) (laws_heldValueS_Q0_1 v1_0)=laws_heldValueS_x0_1 D n v1_0:=by kernel_rfl
theorem laws_heldValueS_ELP0 (D:DX)(n:Nat) (x0:tVals) (x1:Int) (x2:Int) :
  LQ funcTab D n 41 [.r,.l,.r,.l] n (laws_heldValueS_Q0 x0 x1 x2) (CQ funcTab D n 41 [] [.r,.l,.r,.l] (lastK funcTab 41))=laws_heldValueS_LP0 D n x0 x1 x2:=by
  rw[laws_heldValueS_EL0]
  simp only[laws_heldValueS_X0_0,laws_heldValueS_X0_1]
  rfl
theorem E_laws_heldValueS (D:DX)(n:Nat) (a0:tVals) (a1:Int):rfC funcTab D n 41 (a0,(a1,()))=F_laws_heldValueS D n a0 a1:=by
  have h:rfC funcTab D n 41 (a0,(a1,()))=laws_heldValueS_e D n (fun x0 x1 x2=>LQ funcTab D n 41 [.r,.l,.r,.l] n (laws_heldValueS_Q0 x0 x1 x2) (CQ funcTab D n 41 [] [.r,.l,.r,.l] (lastK funcTab 41))) a0 a1:=by kernel_rfl
  rw[h]
  simp only[laws_heldValueS_ELP0]
  rfl

def laws_szRelation_e (D:DX)(n:Nat) (a0:(tSch)×tRows×Unit) (a1:Int):Option ((Int×Unit)×Unit):=bindD (C_laws_szSchema D (Prod.fst a0) a1) fun b↦br (decide (Prod.fst (Prod.fst b)<0)) (some ((-1,()),())) (bindD (C_laws_szValueSS D (Prod.fst (Prod.snd a0)) (Prod.fst (Prod.fst b))) fun b↦br (decide (Prod.fst (Prod.fst b)<0)) (some ((-1,()),())) (some ((Prod.fst (Prod.fst b),()),())))
def F_laws_szRelation (D:DX)(n:Nat) (a0:(tSch)×tRows×Unit) (a1:Int):Option ((Int×Unit)×Unit):=laws_szRelation_e D n a0 a1
theorem E_laws_szRelation (D:DX)(n:Nat) (a0:(tSch)×
  tRows×Unit) (a1:Int):rfC funcTab D n 42 (a0,(a1,()))=F_laws_szRelation D n a0 a1:=by kernel_rfl

def spec_WayOf_e (D:DX)(n:Nat) (a0:(tSch)×tRows×Unit) (a1:Int) (a2:tVals):Option ((tWay×Bool×Unit)×Unit):=bindD (C_spec_RowOk D (Prod.fst a0) a2) fun b↦br (!Prod.fst (Prod.fst b)) (some (((ByteArray.empty,ByteArray.empty,()),false,()),())) (bindD (C_spec_l1In D a1 0 (IntKind.wrap IntKind.i64 ((↑(List.length (Prod.fst (Prod.snd (Prod.snd (Prod.fst a0))))):Int) - 1))) fun b↦br (!Prod.fst (Prod.fst b)) (some (((ByteArray.empty,ByteArray.empty,()),false,()),())) (br (decide (0≤a1)&&decide (a1<(↑(List.length (Prod.fst (Prod.snd (Prod.snd (Prod.fst a0))))):Int))) (bindD (C_spec_Project D a2 (Prod.fst (Prod.snd (List.getD (Prod.fst (Prod.snd (Prod.snd (Prod.fst a0)))) (Int.toNat a1) (ByteArray.empty,[],false,()))))) fun b↦bindD (C_spec_TupleBytes D (Prod.fst (Prod.fst b))) fun b↦bindD (C_spec_KeyOfRow D (Prod.fst a0) a2) fun b_1↦bindD (C_spec_TupleBytes D (Prod.fst (Prod.fst b_1))) fun b_2↦some (((ByteArray.mk (List.toArray (List.map (fun n↦UInt8.ofNat (Int.toNat n)) (Prod.fst (Prod.fst b)))),ByteArray.mk (List.toArray (List.map (fun n↦UInt8.ofNat (Int.toNat n)) (Prod.fst (Prod.fst b_2)))),()),true,()),())) none))
def F_spec_WayOf (D:DX)(n:Nat) (a0:(tSch)×tRows×Unit) (a1:Int) (a2:tVals):Option ((tWay×Bool×Unit)×Unit):=spec_WayOf_e D n a0 a1 a2
theorem E_spec_WayOf (D:DX)(n:Nat) (a0:(tSch)×
  tRows×Unit) (a1:Int) (a2:tVals):rfC funcTab D n 43 (a0,(a1,(a2,())))=F_spec_WayOf D n a0 a1 a2:=by kernel_rfl

def laws_toRelation_e (D:DX)(n:Nat) (a0:(tSch)×tRows×Unit):Option ((((tSch)×tRows×Unit)×Unit)×Unit):=bindD (C_laws_toSchema D (Prod.fst a0)) fun b↦bindD (C_laws_toValueSS D (Prod.fst (Prod.snd a0))) fun b_1↦some ((((Prod.fst (Prod.fst (Prod.fst b)),Prod.fst (Prod.snd (Prod.fst (Prod.fst b))),Prod.fst (Prod.snd (Prod.snd (Prod.fst (Prod.fst b)))),()),Prod.fst (Prod.fst b_1),()),()),())
def F_laws_toRelation (D:DX)(n:Nat) (a0:(tSch)×tRows×Unit):Option ((((tSch)×tRows×Unit)×Unit)×Unit):=laws_toRelation_e D n a0
theorem E_laws_toRelation (D:DX)(n:Nat) (a0:(tSch)×
  tRows×Unit):rfC funcTab D n 44 (a0,())=F_laws_toRelation D n a0:=by kernel_rfl

def impl_WayOf_e (D:DX)(n:Nat) (a0:(tSch)×tRows×Unit) (a1:Int) (a2:tVals):Option ((tWay×Bool×Unit)×Unit):=bindD (C_impl_RowOk D (Prod.fst a0) a2) fun b↦br (!Prod.fst (Prod.fst b)) (some (((ByteArray.empty,ByteArray.empty,()),false,()),())) (bindD (C_impl_from D a1 0 (IntKind.wrap IntKind.i64 ((↑(List.length (Prod.fst (Prod.snd (Prod.snd (Prod.fst a0))))):Int) - 1))) fun b↦br (!Prod.fst (Prod.fst b)) (some (((ByteArray.empty,ByteArray.empty,()),false,()),())) (bindD (C_impl_way D (Prod.fst a0) a1 a2) fun b↦some ((Prod.fst (Prod.fst b),true,()),())))
def F_impl_WayOf (D:DX)(n:Nat) (a0:(tSch)×tRows×Unit) (a1:Int) (a2:tVals):Option ((tWay×Bool×Unit)×Unit):=impl_WayOf_e D n a0 a1 a2
theorem E_impl_WayOf (D:DX)(n:Nat) (a0:(tSch)×
  tRows×Unit) (a1:Int) (a2:tVals):rfC funcTab D n 45 (a0,(a1,(a2,())))=F_impl_WayOf D n a0 a1 a2:=by kernel_rfl

def laws_eqWay_e (D:DX)(n:Nat) (a0:ByteArray×ByteArray×Unit) (a1:ByteArray×ByteArray×Unit):Option ((Bool×Unit)×Unit):=br (!List.beq (ByteArray.toList (Prod.fst a0)) (ByteArray.toList (Prod.fst a1))) (some ((false,()),())) (br (!List.beq (ByteArray.toList (Prod.fst (Prod.snd a0))) (ByteArray.toList (Prod.fst (Prod.snd a1)))) (some ((false,()),())) (some ((true,()),())))
def F_laws_eqWay (D:DX)(n:Nat) (a0:ByteArray×ByteArray×Unit) (a1:ByteArray×ByteArray×Unit):Option ((Bool×Unit)×Unit):=laws_eqWay_e D n a0 a1
theorem E_laws_eqWay (D:DX)(n:Nat) (a0:ByteArray×ByteArray×Unit) (a1:ByteArray×ByteArray×Unit):rfC funcTab D n 46 (a0,(a1,()))=F_laws_eqWay D n a0 a1:=by kernel_rfl

def laws_eqRelation_e (D:DX)(n:Nat) (a0:(tSch)×tRows×Unit) (a1:(tSch)×tRows×Unit):Option ((Bool×Unit)×Unit):=bindD (C_laws_eqSchema D (Prod.fst a0) (Prod.fst a1)) fun b↦br (!Prod.fst (Prod.fst b)) (some ((false,()),())) (bindD (C_laws_eqValueSS D (Prod.fst (Prod.snd a0)) (Prod.fst (Prod.snd a1))) fun b↦br (!Prod.fst (Prod.fst b)) (some ((false,()),())) (some ((true,()),())))
def F_laws_eqRelation (D:DX)(n:Nat) (a0:(tSch)×tRows×Unit) (a1:(tSch)×tRows×Unit):Option ((Bool×Unit)×Unit):=laws_eqRelation_e D n a0 a1
theorem E_laws_eqRelation (D:DX)(n:Nat) (a0:(tSch)×
  tRows×Unit) (a1:(tSch)×
  tRows×Unit):rfC funcTab D n 47 (a0,(a1,()))=F_laws_eqRelation D n a0 a1:=by kernel_rfl

def spec_RelOk_b1 (D:DX)(n:Nat) (go:Int→Int→(tSch)×tRows×Unit→Option ((Bool×Unit)×Unit)) (K0:Bool→Int→(tSch)×tRows×Unit→Option ((Bool×Unit)×Unit)) (K1:Int→(tSch)×tRows×Unit→Option ((Bool×Unit)×Unit)) (x1_0:Int) (x1_1:Int) (x1_2:(tSch)×tRows×Unit):Option ((Bool×Unit)×Unit):=br (decide (x1_1<x1_0)) (br (decide (0≤x1_1)&&decide (x1_1<(↑(List.length (Prod.fst (Prod.snd x1_2))):Int))) (br (decide (0≤x1_0)&&decide (x1_0<(↑(List.length (Prod.fst (Prod.snd x1_2))):Int))) (bindD (C_spec_l21Clash D (Prod.fst x1_2) (List.getD (Prod.fst (Prod.snd x1_2)) (Int.toNat x1_1) []) (List.getD (Prod.fst (Prod.snd x1_2)) (Int.toNat x1_0) [])) fun b↦br (Prod.fst (Prod.fst b)) (K0 false x1_0 x1_2) (go x1_0 (IntKind.wrap IntKind.i64 (x1_1+1)) x1_2)) none) none) (K1 x1_0 x1_2)
def spec_RelOk_L1 (D:DX)(n:Nat) (K0:Bool→Int→(tSch)×tRows×Unit→Option ((Bool×Unit)×Unit)) (K1:Int→(tSch)×tRows×Unit→Option ((Bool×Unit)×Unit)):Nat→(Int)→(Int)→((tSch)×tRows×Unit)→Option ((Bool×Unit)×Unit) | 0=>(fun x1_0 x1_1 x1_2=>none) | m+1=>(fun x1_0 x1_1 x1_2=>spec_RelOk_b1 D n (spec_RelOk_L1 D n K0 K1 m) K0 K1 x1_0 x1_1 x1_2)
def spec_RelOk_x1_0 (D:DX)(n:Nat) (go:Int→(tSch)×tRows×Unit→Option ((Bool×Unit)×Unit)) (K0:Bool→(tSch)×tRows×Unit→Option ((Bool×Unit)×Unit)) (K1:(tSch)×tRows×Unit→Option ((Bool×Unit)×Unit)) (v0_0:Bool) (v0_1:Int) (v0_2:(tSch)×tRows×Unit):Option ((Bool×Unit)×Unit):=K0 v0_0 v0_2
def spec_RelOk_x1_1 (D:DX)(n:Nat) (go:Int→(tSch)×tRows×Unit→Option ((Bool×Unit)×Unit)) (K0:Bool→(tSch)×tRows×Unit→Option ((Bool×Unit)×Unit)) (K1:(tSch)×tRows×Unit→Option ((Bool×Unit)×Unit)) (v1_0:Int) (v1_1:(tSch)×tRows×Unit):Option ((Bool×Unit)×Unit):=go (IntKind.wrap IntKind.i64 (v1_0+1)) v1_1
def spec_RelOk_LP1 (D:DX)(n:Nat) (go:Int→(tSch)×tRows×Unit→Option ((Bool×Unit)×Unit)) (K0:Bool→(tSch)×tRows×Unit→Option ((Bool×Unit)×Unit)) (K1:(tSch)×tRows×Unit→Option ((Bool×Unit)×Unit)):(Int)→(Int)→((tSch)×tRows×Unit)→Option ((Bool×Unit)×Unit):=(fun x1_0 x1_1 x1_2=>spec_RelOk_L1 D n (fun v0_0 v0_1 v0_2=>spec_RelOk_x1_0 D n go K0 K1 v0_0 v0_1 v0_2) (fun v1_0 v1_1=>spec_RelOk_x1_1 D n go K0 K1 v1_0 v1_1) n x1_0 x1_1 x1_2)
def spec_RelOk_b0 (D:DX)(n:Nat) (go:Int→(tSch)×tRows×Unit→Option ((Bool×Unit)×Unit)) (K0:Bool→(tSch)×tRows×Unit→Option ((Bool×Unit)×Unit)) (K1:(tSch)×tRows×Unit→Option ((Bool×Unit)×Unit)) (lp1:Int→Int→(tSch)×tRows×Unit→Option ((Bool×Unit)×Unit)) (x0:Int) (x1:(tSch)×tRows×Unit):Option ((Bool×Unit)×Unit):=br (decide (x0<(↑(List.length (Prod.fst (Prod.snd x1))):Int))) (br (decide (0≤x0)&&decide (x0<(↑(List.length (Prod.fst (Prod.snd x1))):Int))) (bindD (C_spec_RowOk D (Prod.fst x1) (List.getD (Prod.fst (Prod.snd x1)) (Int.toNat x0) [])) fun b↦br (!Prod.fst (Prod.fst b)) (K0 false x1) (br (decide (x0>0)) (br (decide (0≤IntKind.wrap IntKind.i64 (x0 - 1))&&decide (IntKind.wrap IntKind.i64 (x0 - 1)<(↑(List.length (Prod.fst (Prod.snd x1))):Int))) (bindD (C_spec_KeyOfRow D (Prod.fst x1) (List.getD (Prod.fst (Prod.snd x1)) (Int.toNat (IntKind.wrap IntKind.i64 (x0 - 1))) [])) fun b↦br (decide (0≤x0)&&decide (x0<(↑(List.length (Prod.fst (Prod.snd x1))):Int))) (bindD (C_spec_KeyOfRow D (Prod.fst x1) (List.getD (Prod.fst (Prod.snd x1)) (Int.toNat x0) [])) fun b_1↦bindD (C_spec_TupleLess D (Prod.fst (Prod.fst b)) (Prod.fst (Prod.fst b_1))) fun b↦br (!Prod.fst (Prod.fst b)) (K0 false x1) (lp1 x0 0 x1)) none) none) (lp1 x0 0 x1))) none) (K1 x1)
def spec_RelOk_L0 (D:DX)(n:Nat) (K0:Bool→(tSch)×tRows×Unit→Option ((Bool×Unit)×Unit)) (K1:(tSch)×tRows×Unit→Option ((Bool×Unit)×Unit)):Nat→(Int)→((tSch)×tRows×Unit)→Option ((Bool×Unit)×Unit) | 0=>(fun x0 x1=>none) | m+1=>(fun x0 x1=>spec_RelOk_b0 D n (spec_RelOk_L0 D n K0 K1 m) K0 K1 (spec_RelOk_LP1 D n (spec_RelOk_L0 D n K0 K1 m) K0 K1) x0 x1)
def spec_RelOk_x0_0 (D:DX)(n:Nat) (v0_0:Bool) (v0_1:(tSch)×tRows×Unit):Option ((Bool×Unit)×Unit):=some ((v0_0,()),())
def spec_RelOk_x0_1 (D:DX)(n:Nat) (v1_0:(tSch)×tRows×Unit):Option ((Bool×Unit)×Unit):=bindD (C_spec_SchemaOk D (Prod.fst v1_0)) fun b↦some ((bif Prod.fst (Prod.fst b) then decide ((↑(List.length (Prod.fst (Prod.snd v1_0))):Int)≤12) else false,()),())
def spec_RelOk_LP0 (D:DX)(n:Nat):(Int)→((tSch)×tRows×Unit)→Option ((Bool×Unit)×Unit):=(fun x0 x1=>spec_RelOk_L0 D n (fun v0_0 v0_1=>spec_RelOk_x0_0 D n v0_0 v0_1) (fun v1_0=>spec_RelOk_x0_1 D n v1_0) n x0 x1)
def spec_RelOk_e (D:DX)(n:Nat) (lp0:Int→(tSch)×tRows×Unit→Option ((Bool×Unit)×Unit)) (a0:(tSch)×tRows×Unit):Option ((Bool×Unit)×Unit):=lp0 0 a0
def F_spec_RelOk (D:DX)(n:Nat) (a0:(tSch)×tRows×Unit):Option ((Bool×Unit)×Unit):=spec_RelOk_e D n (spec_RelOk_LP0 D n) a0
def spec_RelOk_Q0 (x0:Int) (x1:(tSch)×tRows×Unit):St:=stq 73 [(1,AV.addr 1 []),(3,avI x0)] [(1,Root.mk (Ty.pair yS (Ty.pair (Ty.sl (Ty.sl yV)) Ty.unit)) Mk.no x1 true)] 
def spec_RelOk_Q0_0 (v0_0:Bool) (v0_1:(tSch)×tRows×Unit):St:=stq 73 [(1,AV.addr 1 []),(2,AV.val Ty.bool v0_0)] [(1,Root.mk (Ty.pair yS (Ty.pair (Ty.sl (Ty.sl yV)) Ty.unit)) Mk.no v0_1 true)] 
def spec_RelOk_Q0_1 (v1_0:(tSch)×tRows×Unit):St:=stq 73 [(1,AV.addr 1 [])] [(1,Root.mk (Ty.pair yS (Ty.pair (Ty.sl (Ty.sl yV)) Ty.unit)) Mk.no v1_0 true)] 
def spec_RelOk_Q1 (x1_0:Int) (x1_1:Int) (x1_2:(tSch)×tRows×Unit):St:=stq 73 [(1,AV.addr 1 []),(3,avI x1_0),(4,avI x1_1)] [(1,Root.mk (Ty.pair yS (Ty.pair (Ty.sl (Ty.sl yV)) Ty.unit)) Mk.no x1_2 true)] 
def spec_RelOk_Q1_0 (v0_0:Bool) (v0_1:Int) (v0_2:(tSch)×tRows×Unit):St:=stq 73 [(1,AV.addr 1 []),(2,AV.val Ty.bool v0_0),(3,avI v0_1)] [(1,Root.mk (Ty.pair yS (Ty.pair (Ty.sl (Ty.sl yV)) Ty.unit)) Mk.no v0_2 true)] 
def spec_RelOk_Q1_1 (v1_0:Int) (v1_1:(tSch)×tRows×Unit):St:=stq 73 [(1,AV.addr 1 []),(3,avI v1_0)] [(1,Root.mk (Ty.pair yS (Ty.pair (Ty.sl (Ty.sl yV)) Ty.unit)) Mk.no v1_1 true)] 
theorem spec_RelOk_SB1 (D:DX)(n:Nat) (m:Nat) (K:Ex→St→Option (Out ctx 48)) (x1_0:Int) (x1_1:Int) (x1_2:(tSch)×
  tRows×Unit) :
  LQ funcTab D n 48 [.r,.l,.r,.l,.l,.r,.l,.l,.r,.r,.l] (m+1) (spec_RelOk_Q1 x1_0 x1_1 x1_2) K=spec_RelOk_b1 D n (fun x1_0 x1_1 x1_2=>LQ funcTab D n 48 [.r,.l,.r,.l,.l,.r,.l,.l,.r,.r,.l] m (spec_RelOk_Q1 x1_0 x1_1 x1_2) K) (fun v0_0 v0_1 v0_2=>K (Ex.ret) (spec_RelOk_Q1_0 v0_0 v0_1 v0_2)) (fun v1_0 v1_1=>K (Ex.exit 2) (spec_RelOk_Q1_1 v1_0 v1_1)) x1_0 x1_1 x1_2:=by kernel_rfl
theorem spec_RelOk_EL1 (D:DX)(n:Nat) (K:Ex→St→Option (Out ctx 48)):∀ (m:Nat) (x1_0:Int) (x1_1:Int) (x1_2:(tSch)×
  tRows×Unit),LQ funcTab D n 48 [.r,.l,.r,.l,.l,.r,.l,.l,.r,.r,.l] m (spec_RelOk_Q1 x1_0 x1_1 x1_2) K=spec_RelOk_L1 D n (fun v0_0 v0_1 v0_2=>K (Ex.ret) (spec_RelOk_Q1_0 v0_0 v0_1 v0_2)) (fun v1_0 v1_1=>K (Ex.exit 2) (spec_RelOk_Q1_1 v1_0 v1_1)) m x1_0 x1_1 x1_2
  | 0,x1_0,x1_1,x1_2=>LQ_zero ..
  | m+1,x1_0,x1_1,x1_2=>by
    have ih:(fun x1_0 x1_1 x1_2=>LQ funcTab D n 48 [.r,.l,.r,.l,.l,.r,.l,.l,.r,.r,.l] m (spec_RelOk_Q1 x1_0 x1_1 x1_2) K)=spec_RelOk_L1 D n (fun v0_0 v0_1 v0_2=>K (Ex.ret) (spec_RelOk_Q1_0 v0_0 v0_1 v0_2)) (fun v1_0 v1_1=>K (Ex.exit 2) (spec_RelOk_Q1_1 v1_0 v1_1)) m:=by funext x1_0 x1_1 x1_2;exact spec_RelOk_EL1 D n K m x1_0 x1_1 x1_2
    rw[spec_RelOk_SB1]
    rw[ih];rfl
theorem spec_RelOk_X1_0 (D:DX)(n:Nat) (m:Nat) (K:Ex→St→Option (Out ctx 48)) (v0_0:Bool) (v0_1:Int) (v0_2:(tSch)×
  tRows×Unit) :
  (CQ funcTab D n 48 [.r,.l,.r,.l,.l] [.r,.l,.l,.r,.r,.l] (LK funcTab D n 48 [.r,.l,.r,.l] m K)) (Ex.ret) (spec_RelOk_Q1_0 v0_0 v0_1 v0_2)=spec_RelOk_x1_0 D n (fun x0 x1=>LQ funcTab D n 48 [.r,.l,.r,.l] m (spec_RelOk_Q0 x0 x1) K) (fun v0_0 v0_1=>K (Ex.ret) (spec_RelOk_Q0_0 v0_0 v0_1)) (fun v1_0=>K (Ex.exit 0) (spec_RelOk_Q0_1 v1_0)) v0_0 v0_1 v0_2:=by kernel_rfl
theorem spec_RelOk_X1_1 (D:DX)(n:Nat) (m:Nat) (K:Ex→St→Option (Out ctx 48)) (v1_0:Int) (v1_1:(tSch)×
  tRows×Unit) :
  (CQ funcTab D n 48 [.r,.l,.r,.l,.l] [.r,.l,.l,.r,.r,.l] (LK funcTab D n 48 [.r,.l,.r,.l] m K)) (Ex.exit 2) (spec_RelOk_Q1_1 v1_0 v1_1)=spec_RelOk_x1_1 D n (fun x0 x1=>LQ funcTab D n 48 [.r,.l,.r,.l] m (spec_RelOk_Q0 x0 x1) K) (fun v0_0 v0_1=>K (Ex.ret) (spec_RelOk_Q0_0 v0_0 v0_1)) (fun v1_0=>K (Ex.exit 0) (spec_RelOk_Q0_1 v1_0)) v1_0 v1_1:=by kernel_rfl
theorem spec_RelOk_ELP1 (D:DX)(n:Nat) (m:Nat) (K:Ex→St→Option (Out ctx 48)) (x1_0:Int) (x1_1:Int) (x1_2:(tSch)×
  tRows×Unit) :
  LQ funcTab D n 48 [.r,.l,.r,.l,.l,.r,.l,.l,.r,.r,.l] n (spec_RelOk_Q1 x1_0 x1_1 x1_2) (CQ funcTab D n 48 [.r,.l,.r,.l,.l] [.r,.l,.l,.r,.r,.l] (LK funcTab D n 48 [.r,.l,.r,.l] m K))=spec_RelOk_LP1 D n (fun x0 x1=>LQ funcTab D n 48 [.r,.l,.r,.l] m (spec_RelOk_Q0 x0 x1) K) (fun v0_0 v0_1=>K (Ex.ret) (spec_RelOk_Q0_0 v0_0 v0_1)) (fun v1_0=>K (Ex.exit 0) (spec_RelOk_Q0_1 v1_0)) x1_0 x1_1 x1_2:=by
  rw[spec_RelOk_EL1]
  simp only[spec_RelOk_X1_0,spec_RelOk_X1_1]
  rfl
theorem spec_RelOk_SB0 (D:DX)(n:Nat) (m:Nat) (K:Ex→St→Option (Out ctx 48)) (x0:Int) (x1:(tSch)×
  tRows×Unit) :
  LQ funcTab D n 48 [.r,.l,.r,.l] (m+1) (spec_RelOk_Q0 x0 x1) K=spec_RelOk_b0 D n (fun x0 x1=>LQ funcTab D n 48 [.r,.l,.r,.l] m (spec_RelOk_Q0 x0 x1) K) (fun v0_0 v0_1=>K (Ex.ret) (spec_RelOk_Q0_0 v0_0 v0_1)) (fun v1_0=>K (Ex.exit 0) (spec_RelOk_Q0_1 v1_0)) (fun x1_0 x1_1 x1_2=>LQ funcTab D n 48 [.r,.l,.r,.l,.l,.r,.l,.l,.r,.r,.l] n (spec_RelOk_Q1 x1_0 x1_1 x1_2) (CQ funcTab D n 48 [.r,.l,.r,.l,.l] [.r,.l,.l,.r,.r,.l] (LK funcTab D n 48 [.r,.l,.r,.l] m K))) x0 x1:=by kernel_rfl
theorem spec_RelOk_EL0 (D:DX)(n:Nat) (K:Ex→St→Option (Out ctx 48)):∀ (m:Nat) (x0:Int) (x1:(tSch)×
  tRows×Unit),LQ funcTab D n 48 [.r,.l,.r,.l] m (spec_RelOk_Q0 x0 x1) K=spec_RelOk_L0 D n (fun v0_0 v0_1=>K (Ex.ret) (spec_RelOk_Q0_0 v0_0 v0_1)) (fun v1_0=>K (Ex.exit 0) (spec_RelOk_Q0_1 v1_0)) m x0 x1
  | 0,x0,x1=>LQ_zero ..
  | m+1,x0,x1=>by
    have ih:(fun x0 x1=>LQ funcTab D n 48 [.r,.l,.r,.l] m (spec_RelOk_Q0 x0 x1) K)=spec_RelOk_L0 D n (fun v0_0 v0_1=>K (Ex.ret) (spec_RelOk_Q0_0 v0_0 v0_1)) (fun v1_0=>K (Ex.exit 0) (spec_RelOk_Q0_1 v1_0)) m:=by funext x0 x1;exact spec_RelOk_EL0 D n K m x0 x1
    rw[spec_RelOk_SB0]
    simp only[spec_RelOk_ELP1]
    rw[ih];rfl
theorem spec_RelOk_X0_0 (D:DX)(n:Nat) (v0_0:Bool) (v0_1:(tSch)×
  tRows×Unit) :
  (CQ funcTab D n 48 [] [.r,.l,.r,.l] (lastK funcTab 48)) (Ex.ret) (spec_RelOk_Q0_0 v0_0 v0_1)=spec_RelOk_x0_0 D n v0_0 v0_1:=by kernel_rfl
theorem spec_RelOk_X0_1 (D:DX)(n:Nat) (v1_0:(tSch)×
  tRows×Unit) :
  (CQ funcTab D n 48 [] [.r,.l,.r,.l] (lastK funcTab 48)) (Ex.exit 0) (spec_RelOk_Q0_1 v1_0)=spec_RelOk_x0_1 D n v1_0:=by kernel_rfl
theorem spec_RelOk_ELP0 (D:DX)(n:Nat) (x0:Int) (x1:(tSch)×
  tRows×Unit) :
  LQ funcTab D n 48 [.r,.l,.r,.l] n (spec_RelOk_Q0 x0 x1) (CQ funcTab D n 48 [] [.r,.l,.r,.l] (lastK funcTab 48))=spec_RelOk_LP0 D n x0 x1:=by
  rw[spec_RelOk_EL0]
  simp only[spec_RelOk_X0_0,spec_RelOk_X0_1]
  rfl
theorem E_spec_RelOk (D:DX)(n:Nat) (a0:(tSch)×
  tRows×Unit):rfC funcTab D n 48 (a0,())=F_spec_RelOk D n a0:=by
  have h:rfC funcTab D n 48 (a0,())=spec_RelOk_e D n (fun x0 x1=>LQ funcTab D n 48 [.r,.l,.r,.l] n (spec_RelOk_Q0 x0 x1) (CQ funcTab D n 48 [] [.r,.l,.r,.l] (lastK funcTab 48))) a0:=by kernel_rfl
  rw[h]
  simp only[spec_RelOk_ELP0]
  rfl

def impl_RelOk_b0 (D:DX)(n:Nat) (go:tRows→Int→Int→(tSch)×tRows×Unit→Option ((Bool×Unit)×Unit)) (K0:Bool→(tSch)×tRows×Unit→Option ((Bool×Unit)×Unit)) (K1:(tSch)×tRows×Unit→Option ((Bool×Unit)×Unit)) (x0:tRows) (x1:Int) (x2:Int) (x3:(tSch)×tRows×Unit):Option ((Bool×Unit)×Unit):=br (decide (x2<x1)) (br (decide (0≤x2)&&decide (x2<(↑(List.length x0):Int))) (bindD (C_impl_RowOk D (Prod.fst x3) (List.getD x0 (Int.toNat x2) [])) fun b↦br (!Prod.fst (Prod.fst b)) (K0 false x3) (br (decide (x2>0)) (br (decide (0≤IntKind.wrap IntKind.i64 (x2 - 1))&&decide (IntKind.wrap IntKind.i64 (x2 - 1)<(↑(List.length (Prod.fst (Prod.snd x3))):Int))) (bindD (C_impl_KeyOfRow D (Prod.fst x3) (List.getD (Prod.fst (Prod.snd x3)) (Int.toNat (IntKind.wrap IntKind.i64 (x2 - 1))) [])) fun b↦bindD (C_impl_KeyOfRow D (Prod.fst x3) (List.getD x0 (Int.toNat x2) [])) fun b_1↦bindD (C_impl_TupleLess D (Prod.fst (Prod.fst b)) (Prod.fst (Prod.fst b_1))) fun b↦br (!Prod.fst (Prod.fst b)) (K0 false x3) (br (decide (0≤0)&&decide (0≤x2)&&decide (x2≤(↑(List.length (Prod.fst (Prod.snd x3))):Int))) (bindD (C_slices_ContainsFunc_impl_Value_impl_Valuex D (List.drop (Int.toNat 0) (List.take (Int.toNat x2) (Prod.fst (Prod.snd x3)))) (Clo.mk 117 [CapV.rptr (Ty.pair (Ty.pair (Ty.sl (Ty.pair Ty.str (Ty.pair (Ty.int IntKind.i64) (Ty.pair Ty.bool Ty.unit)))) (Ty.pair (Ty.sl (Ty.int IntKind.i64)) (Ty.pair (Ty.sl (Ty.pair Ty.str (Ty.pair (Ty.sl (Ty.int IntKind.i64)) (Ty.pair Ty.bool Ty.unit)))) Ty.unit))) (Ty.pair (Ty.sl (Ty.sl (Ty.pair (Ty.int IntKind.i64) (Ty.pair (Ty.int IntKind.i64) (Ty.pair Ty.str Ty.unit))))) Ty.unit)) x3,CapV.rptr (Ty.sl (Ty.pair (Ty.int IntKind.i64) (Ty.pair (Ty.int IntKind.i64) (Ty.pair Ty.str Ty.unit)))) (List.getD x0 (Int.toNat x2) [])])) fun b↦br (Prod.fst (Prod.fst b)) (K0 false x3) (go x0 x1 (IntKind.wrap IntKind.i64 (x2+1)) x3)) none)) none) (br (decide (0≤0)&&decide (0≤x2)&&decide (x2≤(↑(List.length (Prod.fst (Prod.snd x3))):Int))) (bindD (C_slices_ContainsFunc_impl_Value_impl_Valuex D (List.drop (Int.toNat 0) (List.take (Int.toNat x2) (Prod.fst (Prod.snd x3)))) (Clo.mk 117 [CapV.rptr (Ty.pair (Ty.pair (Ty.sl (Ty.pair Ty.str (Ty.pair (Ty.int IntKind.i64) (Ty.pair Ty.bool Ty.unit)))) (Ty.pair (Ty.sl (Ty.int IntKind.i64)) (Ty.pair (Ty.sl (Ty.pair Ty.str (Ty.pair (Ty.sl (Ty.int IntKind.i64)) (Ty.pair Ty.bool Ty.unit)))) Ty.unit))) (Ty.pair (Ty.sl (Ty.sl (Ty.pair (Ty.int IntKind.i64) (Ty.pair (Ty.int IntKind.i64) (Ty.pair Ty.str Ty.unit))))) Ty.unit)) x3,CapV.rptr (Ty.sl (Ty.pair (Ty.int IntKind.i64) (Ty.pair (Ty.int IntKind.i64) (Ty.pair Ty.str Ty.unit)))) (List.getD x0 (Int.toNat x2) [])])) fun b↦br (Prod.fst (Prod.fst b)) (K0 false x3) (go x0 x1 (IntKind.wrap IntKind.i64 (x2+1)) x3)) none))) none) (K1 x3)
def impl_RelOk_L0 (D:DX)(n:Nat) (K0:Bool→(tSch)×tRows×Unit→Option ((Bool×Unit)×Unit)) (K1:(tSch)×tRows×Unit→Option ((Bool×Unit)×Unit)):Nat→(tRows)→(Int)→(Int)→((tSch)×tRows×Unit)→Option ((Bool×Unit)×Unit) | 0=>(fun x0 x1 x2 x3=>none) | m+1=>(fun x0 x1 x2 x3=>impl_RelOk_b0 D n (impl_RelOk_L0 D n K0 K1 m) K0 K1 x0 x1 x2 x3)
def impl_RelOk_x0_0 (D:DX)(n:Nat) (v0_0:Bool) (v0_1:(tSch)×tRows×Unit):Option ((Bool×Unit)×Unit):=some ((v0_0,()),())
def impl_RelOk_x0_1 (D:DX)(n:Nat) (v1_0:(tSch)×tRows×Unit):Option ((Bool×Unit)×Unit):=bindD (C_impl_SchemaOk D (Prod.fst v1_0)) fun b↦some ((bif Prod.fst (Prod.fst b) then decide ((↑(List.length (Prod.fst (Prod.snd v1_0))):Int)≤12) else false,()),())
def impl_RelOk_LP0 (D:DX)(n:Nat):(tRows)→(Int)→(Int)→((tSch)×tRows×Unit)→Option ((Bool×Unit)×Unit):=(fun x0 x1 x2 x3=>impl_RelOk_L0 D n (fun v0_0 v0_1=>impl_RelOk_x0_0 D n v0_0 v0_1) (fun v1_0=>impl_RelOk_x0_1 D n v1_0) n x0 x1 x2 x3)
def impl_RelOk_e (D:DX)(n:Nat) (lp0:tRows→Int→Int→(tSch)×tRows×Unit→Option ((Bool×Unit)×Unit)) (a0:(tSch)×tRows×Unit):Option ((Bool×Unit)×Unit):=lp0 (Prod.fst (Prod.snd a0)) (↑(List.length (Prod.fst (Prod.snd a0))):Int) 0 a0
def F_impl_RelOk (D:DX)(n:Nat) (a0:(tSch)×tRows×Unit):Option ((Bool×Unit)×Unit):=impl_RelOk_e D n (impl_RelOk_LP0 D n) a0
def impl_RelOk_Q0 (x0:tRows) (x1:Int) (x2:Int) (x3:(tSch)×tRows×Unit):St:=stq 55 [(1,AV.addr 1 []),(6,AV.val (Ty.sl (Ty.sl yV)) x0),(7,avI x1),(8,avI x2)] [(1,Root.mk (Ty.pair yS (Ty.pair (Ty.sl (Ty.sl yV)) Ty.unit)) Mk.no x3 true)] 
def impl_RelOk_Q0_0 (v0_0:Bool) (v0_1:(tSch)×tRows×Unit):St:=stq 55 [(1,AV.addr 1 []),(2,AV.val Ty.bool v0_0)] [(1,Root.mk (Ty.pair yS (Ty.pair (Ty.sl (Ty.sl yV)) Ty.unit)) Mk.no v0_1 true)] 
def impl_RelOk_Q0_1 (v1_0:(tSch)×tRows×Unit):St:=stq 55 [(1,AV.addr 1 [])] [(1,Root.mk (Ty.pair yS (Ty.pair (Ty.sl (Ty.sl yV)) Ty.unit)) Mk.no v1_0 true)] 
theorem impl_RelOk_SB0 (D:DX)(n:Nat) (m:Nat) (K:Ex→St→Option (Out ctx 49)) (x0:tRows) (x1:Int) (x2:Int) (x3:(tSch)×
  tRows×Unit) :
  LQ funcTab D n 49 [.r,.l,.r,.l] (m+1) (impl_RelOk_Q0 x0 x1 x2 x3) K=impl_RelOk_b0 D n (fun x0 x1 x2 x3=>LQ funcTab D n 49 [.r,.l,.r,.l] m (impl_RelOk_Q0 x0 x1 x2 x3) K) (fun v0_0 v0_1=>K (Ex.ret) (impl_RelOk_Q0_0 v0_0 v0_1)) (fun v1_0=>K (Ex.exit 0) (impl_RelOk_Q0_1 v1_0)) x0 x1 x2 x3:=by kernel_rfl
theorem impl_RelOk_EL0 (D:DX)(n:Nat) (K:Ex→St→Option (Out ctx 49)):∀ (m:Nat) (x0:tRows) (x1:Int) (x2:Int) (x3:(tSch)×
  tRows×Unit),LQ funcTab D n 49 [.r,.l,.r,.l] m (impl_RelOk_Q0 x0 x1 x2 x3) K=impl_RelOk_L0 D n (fun v0_0 v0_1=>K (Ex.ret) (impl_RelOk_Q0_0 v0_0 v0_1)) (fun v1_0=>K (Ex.exit 0) (impl_RelOk_Q0_1 v1_0)) m x0 x1 x2 x3
  | 0,x0,x1,x2,x3=>LQ_zero ..
  | m+1,x0,x1,x2,x3=>by
    have ih:(fun x0 x1 x2 x3=>LQ funcTab D n 49 [.r,.l,.r,.l] m (impl_RelOk_Q0 x0 x1 x2 x3) K)=impl_RelOk_L0 D n (fun v0_0 v0_1=>K (Ex.ret) (impl_RelOk_Q0_0 v0_0 v0_1)) (fun v1_0=>K (Ex.exit 0) (impl_RelOk_Q0_1 v1_0)) m:=by funext x0 x1 x2 x3;exact impl_RelOk_EL0 D n K m x0 x1 x2 x3
    rw[impl_RelOk_SB0]
    rw[ih];rfl
theorem impl_RelOk_X0_0 (D:DX)(n:Nat) (v0_0:Bool) (v0_1:(tSch)×
  tRows×Unit) :
  (CQ funcTab D n 49 [] [.r,.l,.r,.l] (lastK funcTab 49)) (Ex.ret) (impl_RelOk_Q0_0 v0_0 v0_1)=impl_RelOk_x0_0 D n v0_0 v0_1:=by kernel_rfl
theorem impl_RelOk_X0_1 (D:DX)(n:Nat) (v1_0:(tSch)×
  tRows×Unit) :
  (CQ funcTab D n 49 [] [.r,.l,.r,.l] (lastK funcTab 49)) (Ex.exit 0) (impl_RelOk_Q0_1 v1_0)=impl_RelOk_x0_1 D n v1_0:=by kernel_rfl
theorem impl_RelOk_ELP0 (D:DX)(n:Nat) (x0:tRows) (x1:Int) (x2:Int) (x3:(tSch)×
  tRows×Unit) :
  LQ funcTab D n 49 [.r,.l,.r,.l] n (impl_RelOk_Q0 x0 x1 x2 x3) (CQ funcTab D n 49 [] [.r,.l,.r,.l] (lastK funcTab 49))=impl_RelOk_LP0 D n x0 x1 x2 x3:=by
  rw[impl_RelOk_EL0]
  simp only[impl_RelOk_X0_0,impl_RelOk_X0_1]
  rfl
theorem E_impl_RelOk (D:DX)(n:Nat) (a0:(tSch)×
  tRows×Unit):rfC funcTab D n 49 (a0,())=F_impl_RelOk D n a0:=by
  have h:rfC funcTab D n 49 (a0,())=impl_RelOk_e D n (fun x0 x1 x2 x3=>LQ funcTab D n 49 [.r,.l,.r,.l] n (impl_RelOk_Q0 x0 x1 x2 x3) (CQ funcTab D n 49 [] [.r,.l,.r,.l] (lastK funcTab 49))) a0:=by kernel_rfl
  rw[h]
  simp only[impl_RelOk_ELP0]
  rfl

def impl_Lookup_e (D:DX)(n:Nat) (a0:(tSch)×tRows×Unit) (a1:tVals):Option ((tVals×Bool×Unit)×Unit):=bindD (C_impl_keyAt D a0 a1) fun b↦bindD (C_impl_RelOk D a0) fun b_1↦br (bif !Prod.fst (Prod.fst b_1) then true else decide (Prod.fst (Prod.fst b)<0)) (some (([],false,()),())) (br (decide (0≤Prod.fst (Prod.fst b))&&decide (Prod.fst (Prod.fst b)<(↑(List.length (Prod.fst (Prod.snd a0))):Int))) (bindD (C_slices_Clone_impl_Value_impl_Value D (List.getD (Prod.fst (Prod.snd a0)) (Int.toNat (Prod.fst (Prod.fst b))) [])) fun b↦some ((Prod.fst (Prod.fst b),true,()),())) none)
def F_impl_Lookup (D:DX)(n:Nat) (a0:(tSch)×tRows×Unit) (a1:tVals):Option ((tVals×Bool×Unit)×Unit):=impl_Lookup_e D n a0 a1
theorem E_impl_Lookup (D:DX)(n:Nat) (a0:(tSch)×
  tRows×Unit) (a1:tVals):rfC funcTab D n 54 (a0,(a1,()))=F_impl_Lookup D n a0 a1:=by kernel_rfl

def impl_Project_b0 (D:DX)(n:Nat) (go:tVals→List Int→Int→Int→tVals→Option ((tVals×Unit)×Unit)) (K0:tVals→Option ((tVals×Unit)×Unit)) (x0:tVals) (x1:List Int) (x2:Int) (x3:Int) (x4:tVals):Option ((tVals×Unit)×Unit):=br (decide (x3<x2)) (br (decide (0≤x3)&&decide (x3<(↑(List.length x1):Int))) (bindD (C_impl_from D (List.getD x1 (Int.toNat x3) 0) 0 (IntKind.wrap IntKind.i64 ((↑(List.length x0):Int) - 1))) fun b↦br (Prod.fst (Prod.fst b)) (br (decide (0≤List.getD x1 (Int.toNat x3) 0)&&decide (List.getD x1 (Int.toNat x3) 0<(↑(List.length x0):Int))) (br (decide (List.length x4+1≤bound)) (go x0 x1 x2 (IntKind.wrap IntKind.i64 (x3+1)) (x4++[List.getD x0 (Int.toNat (List.getD x1 (Int.toNat x3) 0)) (0,0,ByteArray.empty,())])) none) none) (go x0 x1 x2 (IntKind.wrap IntKind.i64 (x3+1)) x4)) none) (K0 x4)
def impl_Project_L0 (D:DX)(n:Nat) (K0:tVals→Option ((tVals×Unit)×Unit)):Nat→(tVals)→(List Int)→(Int)→(Int)→(tVals)→Option ((tVals×Unit)×Unit) | 0=>(fun x0 x1 x2 x3 x4=>none) | m+1=>(fun x0 x1 x2 x3 x4=>impl_Project_b0 D n (impl_Project_L0 D n K0 m) K0 x0 x1 x2 x3 x4)
def impl_Project_x0_0 (D:DX)(n:Nat) (v0_0:tVals):Option ((tVals×Unit)×Unit):=some ((v0_0,()),())
def impl_Project_LP0 (D:DX)(n:Nat):(tVals)→(List Int)→(Int)→(Int)→(tVals)→Option ((tVals×Unit)×Unit):=(fun x0 x1 x2 x3 x4=>impl_Project_L0 D n (fun v0_0=>impl_Project_x0_0 D n v0_0) n x0 x1 x2 x3 x4)
def impl_Project_e (D:DX)(n:Nat) (lp0:tVals→List Int→Int→Int→tVals→Option ((tVals×Unit)×Unit)) (a0:tVals) (a1:List Int):Option ((tVals×Unit)×Unit):=lp0 a0 a1 (↑(List.length a1):Int) 0 []
def F_impl_Project (D:DX)(n:Nat) (a0:tVals) (a1:List Int):Option ((tVals×Unit)×Unit):=impl_Project_e D n (impl_Project_LP0 D n) a0 a1
def impl_Project_Q0 (x0:tVals) (x1:List Int) (x2:Int) (x3:Int) (x4:tVals):St:=stq 29 [(0,AV.val (Ty.sl yV) x0),(5,AV.brw 5 [] 0),(9,AV.val (Ty.sl yI) x1),(10,avI x2),(11,avI x3)] [(5,Root.mk (Ty.sl yV) (Mk.own 0 (Mk.pr Mk.no (Mk.pr Mk.no (Mk.pr Mk.no Mk.no)))) x4 false)] 
def impl_Project_Q0_0 (v0_0:tVals):St:=stq 29 [(5,AV.brw 5 [] 0)] [(5,Root.mk (Ty.sl yV) (Mk.own 0 (Mk.pr Mk.no (Mk.pr Mk.no (Mk.pr Mk.no Mk.no)))) v0_0 false)] 
theorem impl_Project_SB0 (D:DX)(n:Nat) (m:Nat) (K:Ex→St→Option (Out ctx 56)) (x0:tVals) (x1:List Int) (x2:Int) (x3:Int) (x4:tVals) :
  LQ funcTab D n 56 [.r,.r,.l,.r,.l] (m+1) (impl_Project_Q0 x0 x1 x2 x3 x4) K=impl_Project_b0 D n (fun x0 x1 x2 x3 x4=>LQ funcTab D n 56 [.r,.r,.l,.r,.l] m (impl_Project_Q0 x0 x1 x2 x3 x4) K) (fun v0_0=>K (Ex.exit 0) (impl_Project_Q0_0 v0_0)) x0 x1 x2 x3 x4:=by kernel_rfl
theorem impl_Project_EL0 (D:DX)(n:Nat) (K:Ex→St→Option (Out ctx 56)):∀ (m:Nat) (x0:tVals) (x1:List Int) (x2:Int) (x3:Int) (x4:tVals),LQ funcTab D n 56 [.r,.r,.l,.r,.l] m (impl_Project_Q0 x0 x1 x2 x3 x4) K=impl_Project_L0 D n (fun v0_0=>K (Ex.exit 0) (impl_Project_Q0_0 v0_0)) m x0 x1 x2 x3 x4
  | 0,x0,x1,x2,x3,x4=>LQ_zero ..
  | m+1,x0,x1,x2,x3,x4=>by
    have ih:(fun x0 x1 x2 x3 x4=>LQ funcTab D n 56 [.r,.r,.l,.r,.l] m (impl_Project_Q0 x0 x1 x2 x3 x4) K)=impl_Project_L0 D n (fun v0_0=>K (Ex.exit 0) (impl_Project_Q0_0 v0_0)) m:=by funext x0 x1 x2 x3 x4;exact impl_Project_EL0 D n K m x0 x1 x2 x3 x4
    rw[impl_Project_SB0]
    rw[ih];rfl
theorem impl_Project_X0_0 (D:DX)(n:Nat) (v0_0:tVals) :
  (CQ funcTab D n 56 [] [.r,.r,.l,.r,.l] (lastK funcTab 56)) (Ex.exit 0) (impl_Project_Q0_0 v0_0)=impl_Project_x0_0 D n v0_0:=by kernel_rfl
theorem impl_Project_ELP0 (D:DX)(n:Nat) (x0:tVals) (x1:List Int) (x2:Int) (x3:Int) (x4:tVals) :
  LQ funcTab D n 56 [.r,.r,.l,.r,.l] n (impl_Project_Q0 x0 x1 x2 x3 x4) (CQ funcTab D n 56 [] [.r,.r,.l,.r,.l] (lastK funcTab 56))=impl_Project_LP0 D n x0 x1 x2 x3 x4:=by
  rw[impl_Project_EL0]
  simp only[impl_Project_X0_0]
  rfl
theorem E_impl_Project (D:DX)(n:Nat) (a0:tVals) (a1:List Int):rfC funcTab D n 56 (a0,(a1,()))=F_impl_Project D n a0 a1:=by
  have h:rfC funcTab D n 56 (a0,(a1,()))=impl_Project_e D n (fun x0 x1 x2 x3 x4=>LQ funcTab D n 56 [.r,.r,.l,.r,.l] n (impl_Project_Q0 x0 x1 x2 x3 x4) (CQ funcTab D n 56 [] [.r,.r,.l,.r,.l] (lastK funcTab 56))) a0 a1:=by kernel_rfl
  rw[h]
  simp only[impl_Project_ELP0]
  rfl

def spec_Lookup_e (D:DX)(n:Nat) (a0:(tSch)×tRows×Unit) (a1:tVals):Option ((tVals×Bool×Unit)×Unit):=bindD (C_spec_l21At D a0 a1) fun b↦br (decide (Prod.fst (Prod.fst b)<0)) (some (([],false,()),())) (bindD (C_spec_RelOk D a0) fun b_1↦br (!Prod.fst (Prod.fst b_1)) (some (([],false,()),())) (br (decide (0≤Prod.fst (Prod.fst b))&&decide (Prod.fst (Prod.fst b)<(↑(List.length (Prod.fst (Prod.snd a0))):Int))) (br (decide (0+List.length (List.getD (Prod.fst (Prod.snd a0)) (Int.toNat (Prod.fst (Prod.fst b))) [])≤bound)) (some (([]++List.getD (Prod.fst (Prod.snd a0)) (Int.toNat (Prod.fst (Prod.fst b))) [],true,()),())) none) none))
def F_spec_Lookup (D:DX)(n:Nat) (a0:(tSch)×tRows×Unit) (a1:tVals):Option ((tVals×Bool×Unit)×Unit):=spec_Lookup_e D n a0 a1
theorem E_spec_Lookup (D:DX)(n:Nat) (a0:(tSch)×
  tRows×Unit) (a1:tVals):rfC funcTab D n 58 (a0,(a1,()))=F_spec_Lookup D n a0 a1:=by kernel_rfl

def laws_markRelation_e (D:DX)(n:Nat) (a0:(tSch)×tRows×Unit) (a1:Int):Option ((Int×Unit)×((tSch)×tRows×Unit)×Unit):=bindD (C_laws_markSchema D (Prod.fst (Prod.fst a0),Prod.fst (Prod.snd (Prod.fst a0)),Prod.fst (Prod.snd (Prod.snd (Prod.fst a0))),()) a1) fun b↦bindD (C_laws_markValueSS D (Prod.fst (Prod.snd a0)) (Prod.fst (Prod.fst b))) fun b_1↦some ((Prod.fst (Prod.fst b_1),()),((Prod.fst (Prod.fst (Prod.snd b)),Prod.fst (Prod.snd (Prod.fst (Prod.snd b))),Prod.fst (Prod.snd (Prod.snd (Prod.fst (Prod.snd b)))),()),Prod.fst (Prod.snd b_1),()),())
def F_laws_markRelation (D:DX)(n:Nat) (a0:(tSch)×tRows×Unit) (a1:Int):Option ((Int×Unit)×((tSch)×tRows×Unit)×Unit):=laws_markRelation_e D n a0 a1
theorem E_laws_markRelation (D:DX)(n:Nat) (a0:(tSch)×
  tRows×Unit) (a1:Int):rfC funcTab D n 59 (a0,(a1,()))=F_laws_markRelation D n a0 a1:=by kernel_rfl

def laws_heldRelation_e (D:DX)(n:Nat) (a0:(tSch)×tRows×Unit) (a1:Int):Option ((Int×Unit)×Unit):=bindD (C_laws_heldSchema D (Prod.fst a0) a1) fun b↦br (decide (Prod.fst (Prod.fst b)<0)) (some ((-1,()),())) (bindD (C_laws_heldValueSS D (Prod.fst (Prod.snd a0)) (Prod.fst (Prod.fst b))) fun b↦br (decide (Prod.fst (Prod.fst b)<0)) (some ((-1,()),())) (some ((Prod.fst (Prod.fst b),()),())))
def F_laws_heldRelation (D:DX)(n:Nat) (a0:(tSch)×tRows×Unit) (a1:Int):Option ((Int×Unit)×Unit):=laws_heldRelation_e D n a0 a1
theorem E_laws_heldRelation (D:DX)(n:Nat) (a0:(tSch)×
  tRows×Unit) (a1:Int):rfC funcTab D n 62 (a0,(a1,()))=F_laws_heldRelation D n a0 a1:=by kernel_rfl

def laws_szColS_b0 (D:DX)(n:Nat) (go:tCols→Int→Int→Option ((Int×Unit)×Unit)) (K0:Int→Int→Option ((Int×Unit)×Unit)) (K1:Int→Option ((Int×Unit)×Unit)) (x0:tCols) (x1:Int) (x2:Int):Option ((Int×Unit)×Unit):=br (decide (x2<(↑(List.length x0):Int))) (br (decide (0≤x2)&&decide (x2<(↑(List.length x0):Int))) (bindD (C_laws_szCol D (List.getD x0 (Int.toNat x2) (ByteArray.empty,0,false,())) x1) fun b↦br (decide (Prod.fst (Prod.fst b)<0)) (K0 (Prod.fst (Prod.fst b)) (-1)) (go x0 (Prod.fst (Prod.fst b)) (IntKind.wrap IntKind.i64 (x2+1)))) none) (K1 x1)
def laws_szColS_L0 (D:DX)(n:Nat) (K0:Int→Int→Option ((Int×Unit)×Unit)) (K1:Int→Option ((Int×Unit)×Unit)):Nat→(tCols)→(Int)→(Int)→Option ((Int×Unit)×Unit) | 0=>(fun x0 x1 x2=>none) | m+1=>(fun x0 x1 x2=>laws_szColS_b0 D n (laws_szColS_L0 D n K0 K1 m) K0 K1 x0 x1 x2)
def laws_szColS_x0_0 (D:DX)(n:Nat) (v0_0:Int) (v0_1:Int):Option ((Int×Unit)×Unit):=some ((v0_1,()),())
def laws_szColS_x0_1 (D:DX)(n:Nat) (v1_0:Int):Option ((Int×Unit)×Unit):=some ((v1_0,()),())
def laws_szColS_LP0 (D:DX)(n:Nat):(tCols)→(Int)→(Int)→Option ((Int×Unit)×Unit):=(fun x0 x1 x2=>laws_szColS_L0 D n (fun v0_0 v0_1=>laws_szColS_x0_0 D n v0_0 v0_1) (fun v1_0=>laws_szColS_x0_1 D n v1_0) n x0 x1 x2)
def laws_szColS_e (D:DX)(n:Nat) (lp0:tCols→Int→Int→Option ((Int×Unit)×Unit)) (a0:tCols) (a1:Int):Option ((Int×Unit)×Unit):=br (decide (IntKind.wrap IntKind.i64 (a1 - (↑(List.length a0):Int))<0)) (some ((-1,()),())) (lp0 a0 (IntKind.wrap IntKind.i64 (a1 - (↑(List.length a0):Int))) 0)
def F_laws_szColS (D:DX)(n:Nat) (a0:tCols) (a1:Int):Option ((Int×Unit)×Unit):=laws_szColS_e D n (laws_szColS_LP0 D n) a0 a1
def laws_szColS_Q0 (x0:tCols) (x1:Int) (x2:Int):St:=stq 27 [(0,AV.val (Ty.sl yC) x0),(1,avI x1),(5,avI x2)] [] 
def laws_szColS_Q0_0 (v0_0:Int) (v0_1:Int):St:=stq 27 [(1,avI v0_0),(4,avI v0_1)] [] 
def laws_szColS_Q0_1 (v1_0:Int):St:=stq 27 [(1,avI v1_0)] [] 
theorem laws_szColS_SB0 (D:DX)(n:Nat) (m:Nat) (K:Ex→St→Option (Out ctx 70)) (x0:tCols) (x1:Int) (x2:Int) :
  LQ funcTab D n 70 [.r,.r,.r,.l,.r,.l] (m+1) (laws_szColS_Q0 x0 x1 x2) K=laws_szColS_b0 D n (fun x0 x1 x2=>LQ funcTab D n 70 [.r,.r,.r,.l,.r,.l] m (laws_szColS_Q0 x0 x1 x2) K) (fun v0_0 v0_1=>K (Ex.ret) (laws_szColS_Q0_0 v0_0 v0_1)) (fun v1_0=>K (Ex.exit 0) (laws_szColS_Q0_1 v1_0)) x0 x1 x2:=by kernel_rfl
theorem laws_szColS_EL0 (D:DX)(n:Nat) (K:Ex→St→Option (Out ctx 70)):∀ (m:Nat) (x0:tCols) (x1:Int) (x2:Int),LQ funcTab D n 70 [.r,.r,.r,.l,.r,.l] m (laws_szColS_Q0 x0 x1 x2) K=laws_szColS_L0 D n (fun v0_0 v0_1=>K (Ex.ret) (laws_szColS_Q0_0 v0_0 v0_1)) (fun v1_0=>K (Ex.exit 0) (laws_szColS_Q0_1 v1_0)) m x0 x1 x2
  | 0,x0,x1,x2=>LQ_zero ..
  | m+1,x0,x1,x2=>by
    have ih:(fun x0 x1 x2=>LQ funcTab D n 70 [.r,.r,.r,.l,.r,.l] m (laws_szColS_Q0 x0 x1 x2) K)=laws_szColS_L0 D n (fun v0_0 v0_1=>K (Ex.ret) (laws_szColS_Q0_0 v0_0 v0_1)) (fun v1_0=>K (Ex.exit 0) (laws_szColS_Q0_1 v1_0)) m:=by funext x0 x1 x2;exact laws_szColS_EL0 D n K m x0 x1 x2
    rw[laws_szColS_SB0]
    rw[ih];rfl
theorem laws_szColS_X0_0 (D:DX)(n:Nat) (v0_0:Int) (v0_1:Int) :
  (CQ funcTab D n 70 [] [.r,.r,.r,.l,.r,.l] (lastK funcTab 70)) (Ex.ret) (laws_szColS_Q0_0 v0_0 v0_1)=laws_szColS_x0_0 D n v0_0 v0_1:=by kernel_rfl
theorem laws_szColS_X0_1 (D:DX)(n:Nat) (v1_0:Int) :
  (CQ funcTab D n 70 [] [.r,.r,.r,.l,.r,.l] (lastK funcTab 70)) (Ex.exit 0) (laws_szColS_Q0_1 v1_0)=laws_szColS_x0_1 D n v1_0:=by kernel_rfl
theorem laws_szColS_ELP0 (D:DX)(n:Nat) (x0:tCols) (x1:Int) (x2:Int) :
  LQ funcTab D n 70 [.r,.r,.r,.l,.r,.l] n (laws_szColS_Q0 x0 x1 x2) (CQ funcTab D n 70 [] [.r,.r,.r,.l,.r,.l] (lastK funcTab 70))=laws_szColS_LP0 D n x0 x1 x2:=by
  rw[laws_szColS_EL0]
  simp only[laws_szColS_X0_0,laws_szColS_X0_1]
  rfl
theorem E_laws_szColS (D:DX)(n:Nat) (a0:tCols) (a1:Int):rfC funcTab D n 70 (a0,(a1,()))=F_laws_szColS D n a0 a1:=by
  have h:rfC funcTab D n 70 (a0,(a1,()))=laws_szColS_e D n (fun x0 x1 x2=>LQ funcTab D n 70 [.r,.r,.r,.l,.r,.l] n (laws_szColS_Q0 x0 x1 x2) (CQ funcTab D n 70 [] [.r,.r,.r,.l,.r,.l] (lastK funcTab 70))) a0 a1:=by kernel_rfl
  rw[h]
  simp only[laws_szColS_ELP0]
  rfl

def laws_szIntS_e (D:DX)(n:Nat) (a0:List Int) (a1:Int):Option ((Int×Unit)×Unit):=br (decide (IntKind.wrap IntKind.i64 (a1 - (↑(List.length a0):Int))<0)) (some ((-1,()),())) (some ((IntKind.wrap IntKind.i64 (a1 - (↑(List.length a0):Int)),()),()))
def F_laws_szIntS (D:DX)(n:Nat) (a0:List Int) (a1:Int):Option ((Int×Unit)×Unit):=laws_szIntS_e D n a0 a1
theorem E_laws_szIntS (D:DX)(n:Nat) (a0:List Int) (a1:Int):rfC funcTab D n 71 (a0,(a1,()))=F_laws_szIntS D n a0 a1:=by kernel_rfl

def laws_szIndexS_b0 (D:DX)(n:Nat) (go:tIxs→Int→Int→Option ((Int×Unit)×Unit)) (K0:Int→Int→Option ((Int×Unit)×Unit)) (K1:Int→Option ((Int×Unit)×Unit)) (x0:tIxs) (x1:Int) (x2:Int):Option ((Int×Unit)×Unit):=br (decide (x2<(↑(List.length x0):Int))) (br (decide (0≤x2)&&decide (x2<(↑(List.length x0):Int))) (bindD (C_laws_szIndex D (List.getD x0 (Int.toNat x2) (ByteArray.empty,[],false,())) x1) fun b↦br (decide (Prod.fst (Prod.fst b)<0)) (K0 (Prod.fst (Prod.fst b)) (-1)) (go x0 (Prod.fst (Prod.fst b)) (IntKind.wrap IntKind.i64 (x2+1)))) none) (K1 x1)
def laws_szIndexS_L0 (D:DX)(n:Nat) (K0:Int→Int→Option ((Int×Unit)×Unit)) (K1:Int→Option ((Int×Unit)×Unit)):Nat→(tIxs)→(Int)→(Int)→Option ((Int×Unit)×Unit) | 0=>(fun x0 x1 x2=>none) | m+1=>(fun x0 x1 x2=>laws_szIndexS_b0 D n (laws_szIndexS_L0 D n K0 K1 m) K0 K1 x0 x1 x2)
def laws_szIndexS_x0_0 (D:DX)(n:Nat) (v0_0:Int) (v0_1:Int):Option ((Int×Unit)×Unit):=some ((v0_1,()),())
def laws_szIndexS_x0_1 (D:DX)(n:Nat) (v1_0:Int):Option ((Int×Unit)×Unit):=some ((v1_0,()),())
def laws_szIndexS_LP0 (D:DX)(n:Nat):(tIxs)→(Int)→(Int)→Option ((Int×Unit)×Unit):=(fun x0 x1 x2=>laws_szIndexS_L0 D n (fun v0_0 v0_1=>laws_szIndexS_x0_0 D n v0_0 v0_1) (fun v1_0=>laws_szIndexS_x0_1 D n v1_0) n x0 x1 x2)
def laws_szIndexS_e (D:DX)(n:Nat) (lp0:tIxs→Int→Int→Option ((Int×Unit)×Unit)) (a0:tIxs) (a1:Int):Option ((Int×Unit)×Unit):=br (decide (IntKind.wrap IntKind.i64 (a1 - (↑(List.length a0):Int))<0)) (some ((-1,()),())) (lp0 a0 (IntKind.wrap IntKind.i64 (a1 - (↑(List.length a0):Int))) 0)
def F_laws_szIndexS (D:DX)(n:Nat) (a0:tIxs) (a1:Int):Option ((Int×Unit)×Unit):=laws_szIndexS_e D n (laws_szIndexS_LP0 D n) a0 a1
def laws_szIndexS_Q0 (x0:tIxs) (x1:Int) (x2:Int):St:=stq 27 [(0,AV.val (Ty.sl yX) x0),(1,avI x1),(5,avI x2)] [] 
def laws_szIndexS_Q0_0 (v0_0:Int) (v0_1:Int):St:=stq 27 [(1,avI v0_0),(4,avI v0_1)] [] 
def laws_szIndexS_Q0_1 (v1_0:Int):St:=stq 27 [(1,avI v1_0)] [] 
theorem laws_szIndexS_SB0 (D:DX)(n:Nat) (m:Nat) (K:Ex→St→Option (Out ctx 72)) (x0:tIxs) (x1:Int) (x2:Int) :
  LQ funcTab D n 72 [.r,.r,.r,.l,.r,.l] (m+1) (laws_szIndexS_Q0 x0 x1 x2) K=laws_szIndexS_b0 D n (fun x0 x1 x2=>LQ funcTab D n 72 [.r,.r,.r,.l,.r,.l] m (laws_szIndexS_Q0 x0 x1 x2) K) (fun v0_0 v0_1=>K (Ex.ret) (laws_szIndexS_Q0_0 v0_0 v0_1)) (fun v1_0=>K (Ex.exit 0) (laws_szIndexS_Q0_1 v1_0)) x0 x1 x2:=by kernel_rfl
theorem laws_szIndexS_EL0 (D:DX)(n:Nat) (K:Ex→St→Option (Out ctx 72)):∀ (m:Nat) (x0:tIxs) (x1:Int) (x2:Int),LQ funcTab D n 72 [.r,.r,.r,.l,.r,.l] m (laws_szIndexS_Q0 x0 x1 x2) K=laws_szIndexS_L0 D n (fun v0_0 v0_1=>K (Ex.ret) (laws_szIndexS_Q0_0 v0_0 v0_1)) (fun v1_0=>K (Ex.exit 0) (laws_szIndexS_Q0_1 v1_0)) m x0 x1 x2
  | 0,x0,x1,x2=>LQ_zero ..
  | m+1,x0,x1,x2=>by
    have ih:(fun x0 x1 x2=>LQ funcTab D n 72 [.r,.r,.r,.l,.r,.l] m (laws_szIndexS_Q0 x0 x1 x2) K)=laws_szIndexS_L0 D n (fun v0_0 v0_1=>K (Ex.ret) (laws_szIndexS_Q0_0 v0_0 v0_1)) (fun v1_0=>K (Ex.exit 0) (laws_szIndexS_Q0_1 v1_0)) m:=by funext x0 x1 x2;exact laws_szIndexS_EL0 D n K m x0 x1 x2
    rw[laws_szIndexS_SB0]
    rw[ih];rfl
theorem laws_szIndexS_X0_0 (D:DX)(n:Nat) (v0_0:Int) (v0_1:Int) :
  (CQ funcTab D n 72 [] [.r,.r,.r,.l,.r,.l] (lastK funcTab 72)) (Ex.ret) (laws_szIndexS_Q0_0 v0_0 v0_1)=laws_szIndexS_x0_0 D n v0_0 v0_1:=by kernel_rfl
theorem laws_szIndexS_X0_1 (D:DX)(n:Nat) (v1_0:Int) :
  (CQ funcTab D n 72 [] [.r,.r,.r,.l,.r,.l] (lastK funcTab 72)) (Ex.exit 0) (laws_szIndexS_Q0_1 v1_0)=laws_szIndexS_x0_1 D n v1_0:=by kernel_rfl
theorem laws_szIndexS_ELP0 (D:DX)(n:Nat) (x0:tIxs) (x1:Int) (x2:Int) :
  LQ funcTab D n 72 [.r,.r,.r,.l,.r,.l] n (laws_szIndexS_Q0 x0 x1 x2) (CQ funcTab D n 72 [] [.r,.r,.r,.l,.r,.l] (lastK funcTab 72))=laws_szIndexS_LP0 D n x0 x1 x2:=by
  rw[laws_szIndexS_EL0]
  simp only[laws_szIndexS_X0_0,laws_szIndexS_X0_1]
  rfl
theorem E_laws_szIndexS (D:DX)(n:Nat) (a0:tIxs) (a1:Int):rfC funcTab D n 72 (a0,(a1,()))=F_laws_szIndexS D n a0 a1:=by
  have h:rfC funcTab D n 72 (a0,(a1,()))=laws_szIndexS_e D n (fun x0 x1 x2=>LQ funcTab D n 72 [.r,.r,.r,.l,.r,.l] n (laws_szIndexS_Q0 x0 x1 x2) (CQ funcTab D n 72 [] [.r,.r,.r,.l,.r,.l] (lastK funcTab 72))) a0 a1:=by kernel_rfl
  rw[h]
  simp only[laws_szIndexS_ELP0]
  rfl

def spec_l1In_e (D:DX)(n:Nat) (a0:Int) (a1:Int) (a2:Int):Option ((Bool×Unit)×Unit):=some ((bif decide (a0≥a1) then decide (a0≤a2) else false,()),())
def F_spec_l1In (D:DX)(n:Nat) (a0:Int) (a1:Int) (a2:Int):Option ((Bool×Unit)×Unit):=spec_l1In_e D n a0 a1 a2
theorem E_spec_l1In (D:DX)(n:Nat) (a0:Int) (a1:Int) (a2:Int):rfC funcTab D n 73 (a0,(a1,(a2,())))=F_spec_l1In D n a0 a1 a2:=by kernel_rfl

def spec_l19Places_b1 (D:DX)(n:Nat) (go:List Int→Int→Int→Int→tSch→Option ((Bool×Unit)×Unit)) (K0:List Int→Int→Bool→Int→tSch→Option ((Bool×Unit)×Unit)) (K1:List Int→Int→Int→tSch→Option ((Bool×Unit)×Unit)) (x1_0:List Int) (x1_1:Int) (x1_2:Int) (x1_3:Int) (x1_4:tSch):Option ((Bool×Unit)×Unit):=br (decide (x1_3<x1_2)) (br (decide (0≤x1_3)&&decide (x1_3<(↑(List.length x1_0):Int))) (br (decide (0≤x1_2)&&decide (x1_2<(↑(List.length x1_0):Int))) (br (decide (List.getD x1_0 (Int.toNat x1_3) 0=List.getD x1_0 (Int.toNat x1_2) 0)) (K0 x1_0 x1_1 false x1_2 x1_4) (go x1_0 x1_1 x1_2 (IntKind.wrap IntKind.i64 (x1_3+1)) x1_4)) none) none) (K1 x1_0 x1_1 x1_2 x1_4)
def spec_l19Places_L1 (D:DX)(n:Nat) (K0:List Int→Int→Bool→Int→tSch→Option ((Bool×Unit)×Unit)) (K1:List Int→Int→Int→tSch→Option ((Bool×Unit)×Unit)):Nat→(List Int)→(Int)→(Int)→(Int)→(tSch)→Option ((Bool×Unit)×Unit) | 0=>(fun x1_0 x1_1 x1_2 x1_3 x1_4=>none) | m+1=>(fun x1_0 x1_1 x1_2 x1_3 x1_4=>spec_l19Places_b1 D n (spec_l19Places_L1 D n K0 K1 m) K0 K1 x1_0 x1_1 x1_2 x1_3 x1_4)
def spec_l19Places_x1_0 (D:DX)(n:Nat) (go:List Int→Int→Int→tSch→Option ((Bool×Unit)×Unit)) (K0:List Int→Int→Bool→Option ((Bool×Unit)×Unit)) (K1:List Int→Int→Option ((Bool×Unit)×Unit)) (v0_0:List Int) (v0_1:Int) (v0_2:Bool) (v0_3:Int) (v0_4:tSch):Option ((Bool×Unit)×Unit):=K0 v0_0 v0_1 v0_2
def spec_l19Places_x1_1 (D:DX)(n:Nat) (go:List Int→Int→Int→tSch→Option ((Bool×Unit)×Unit)) (K0:List Int→Int→Bool→Option ((Bool×Unit)×Unit)) (K1:List Int→Int→Option ((Bool×Unit)×Unit)) (v1_0:List Int) (v1_1:Int) (v1_2:Int) (v1_3:tSch):Option ((Bool×Unit)×Unit):=go v1_0 v1_1 (IntKind.wrap IntKind.i64 (v1_2+1)) v1_3
def spec_l19Places_LP1 (D:DX)(n:Nat) (go:List Int→Int→Int→tSch→Option ((Bool×Unit)×Unit)) (K0:List Int→Int→Bool→Option ((Bool×Unit)×Unit)) (K1:List Int→Int→Option ((Bool×Unit)×Unit)):(List Int)→(Int)→(Int)→(Int)→(tSch)→Option ((Bool×Unit)×Unit):=(fun x1_0 x1_1 x1_2 x1_3 x1_4=>spec_l19Places_L1 D n (fun v0_0 v0_1 v0_2 v0_3 v0_4=>spec_l19Places_x1_0 D n go K0 K1 v0_0 v0_1 v0_2 v0_3 v0_4) (fun v1_0 v1_1 v1_2 v1_3=>spec_l19Places_x1_1 D n go K0 K1 v1_0 v1_1 v1_2 v1_3) n x1_0 x1_1 x1_2 x1_3 x1_4)
def spec_l19Places_b0 (D:DX)(n:Nat) (go:List Int→Int→Int→tSch→Option ((Bool×Unit)×Unit)) (K0:List Int→Int→Bool→Option ((Bool×Unit)×Unit)) (K1:List Int→Int→Option ((Bool×Unit)×Unit)) (lp1:List Int→Int→Int→Int→tSch→Option ((Bool×Unit)×Unit)) (x0:List Int) (x1:Int) (x2:Int) (x3:tSch):Option ((Bool×Unit)×Unit):=br (decide (x2<(↑(List.length x0):Int))) (br (decide (0≤x2)&&decide (x2<(↑(List.length x0):Int))) (bindD (C_spec_l1In D (List.getD x0 (Int.toNat x2) 0) 0 (IntKind.wrap IntKind.i64 ((↑(List.length (Prod.fst x3)):Int) - 1))) fun b↦br (!Prod.fst (Prod.fst b)) (K0 x0 x1 false) (lp1 x0 x1 x2 0 x3)) none) (K1 x0 x1)
def spec_l19Places_L0 (D:DX)(n:Nat) (K0:List Int→Int→Bool→Option ((Bool×Unit)×Unit)) (K1:List Int→Int→Option ((Bool×Unit)×Unit)):Nat→(List Int)→(Int)→(Int)→(tSch)→Option ((Bool×Unit)×Unit) | 0=>(fun x0 x1 x2 x3=>none) | m+1=>(fun x0 x1 x2 x3=>spec_l19Places_b0 D n (spec_l19Places_L0 D n K0 K1 m) K0 K1 (spec_l19Places_LP1 D n (spec_l19Places_L0 D n K0 K1 m) K0 K1) x0 x1 x2 x3)
def spec_l19Places_x0_0 (D:DX)(n:Nat) (v0_0:List Int) (v0_1:Int) (v0_2:Bool):Option ((Bool×Unit)×Unit):=some ((v0_2,()),())
def spec_l19Places_x0_1 (D:DX)(n:Nat) (v1_0:List Int) (v1_1:Int):Option ((Bool×Unit)×Unit):=bindD (C_spec_l1In D (↑(List.length v1_0):Int) 1 v1_1) fun b↦some ((Prod.fst (Prod.fst b),()),())
def spec_l19Places_LP0 (D:DX)(n:Nat):(List Int)→(Int)→(Int)→(tSch)→Option ((Bool×Unit)×Unit):=(fun x0 x1 x2 x3=>spec_l19Places_L0 D n (fun v0_0 v0_1 v0_2=>spec_l19Places_x0_0 D n v0_0 v0_1 v0_2) (fun v1_0 v1_1=>spec_l19Places_x0_1 D n v1_0 v1_1) n x0 x1 x2 x3)
def spec_l19Places_e (D:DX)(n:Nat) (lp0:List Int→Int→Int→tSch→Option ((Bool×Unit)×Unit)) (a0:tSch) (a1:List Int) (a2:Int):Option ((Bool×Unit)×Unit):=lp0 a1 a2 0 a0
def F_spec_l19Places (D:DX)(n:Nat) (a0:tSch) (a1:List Int) (a2:Int):Option ((Bool×Unit)×Unit):=spec_l19Places_e D n (spec_l19Places_LP0 D n) a0 a1 a2
def spec_l19Places_Q0 (x0:List Int) (x1:Int) (x2:Int) (x3:tSch):St:=stq 43 [(1,AV.val (Ty.sl yI) x0),(2,avI x1),(3,AV.addr 3 []),(7,avI x2)] [(3,Root.mk yS Mk.no x3 true)] 
def spec_l19Places_Q0_0 (v0_0:List Int) (v0_1:Int) (v0_2:Bool):St:=stq 43 [(1,AV.val (Ty.sl yI) v0_0),(2,avI v0_1),(6,AV.val Ty.bool v0_2)] [] 
def spec_l19Places_Q0_1 (v1_0:List Int) (v1_1:Int):St:=stq 43 [(1,AV.val (Ty.sl yI) v1_0),(2,avI v1_1)] [] 
def spec_l19Places_Q1 (x1_0:List Int) (x1_1:Int) (x1_2:Int) (x1_3:Int) (x1_4:tSch):St:=stq 43 [(1,AV.val (Ty.sl yI) x1_0),(2,avI x1_1),(3,AV.addr 3 []),(7,avI x1_2),(8,avI x1_3)] [(3,Root.mk yS Mk.no x1_4 true)] 
def spec_l19Places_Q1_0 (v0_0:List Int) (v0_1:Int) (v0_2:Bool) (v0_3:Int) (v0_4:tSch):St:=stq 43 [(1,AV.val (Ty.sl yI) v0_0),(2,avI v0_1),(3,AV.addr 3 []),(6,AV.val Ty.bool v0_2),(7,avI v0_3)] [(3,Root.mk yS Mk.no v0_4 true)] 
def spec_l19Places_Q1_1 (v1_0:List Int) (v1_1:Int) (v1_2:Int) (v1_3:tSch):St:=stq 43 [(1,AV.val (Ty.sl yI) v1_0),(2,avI v1_1),(3,AV.addr 3 []),(7,avI v1_2)] [(3,Root.mk yS Mk.no v1_3 true)] 
theorem spec_l19Places_SB1 (D:DX)(n:Nat) (m:Nat) (K:Ex→St→Option (Out ctx 74)) (x1_0:List Int) (x1_1:Int) (x1_2:Int) (x1_3:Int) (x1_4:tSch) :
  LQ funcTab D n 74 [.r,.l,.r,.l,.l,.r,.l,.l,.r,.r,.l] (m+1) (spec_l19Places_Q1 x1_0 x1_1 x1_2 x1_3 x1_4) K=spec_l19Places_b1 D n (fun x1_0 x1_1 x1_2 x1_3 x1_4=>LQ funcTab D n 74 [.r,.l,.r,.l,.l,.r,.l,.l,.r,.r,.l] m (spec_l19Places_Q1 x1_0 x1_1 x1_2 x1_3 x1_4) K) (fun v0_0 v0_1 v0_2 v0_3 v0_4=>K (Ex.ret) (spec_l19Places_Q1_0 v0_0 v0_1 v0_2 v0_3 v0_4)) (fun v1_0 v1_1 v1_2 v1_3=>K (Ex.exit 2) (spec_l19Places_Q1_1 v1_0 v1_1 v1_2 v1_3)) x1_0 x1_1 x1_2 x1_3 x1_4:=by kernel_rfl
theorem spec_l19Places_EL1 (D:DX)(n:Nat) (K:Ex→St→Option (Out ctx 74)):∀ (m:Nat) (x1_0:List Int) (x1_1:Int) (x1_2:Int) (x1_3:Int) (x1_4:tSch),LQ funcTab D n 74 [.r,.l,.r,.l,.l,.r,.l,.l,.r,.r,.l] m (spec_l19Places_Q1 x1_0 x1_1 x1_2 x1_3 x1_4) K=spec_l19Places_L1 D n (fun v0_0 v0_1 v0_2 v0_3 v0_4=>K (Ex.ret) (spec_l19Places_Q1_0 v0_0 v0_1 v0_2 v0_3 v0_4)) (fun v1_0 v1_1 v1_2 v1_3=>K (Ex.exit 2) (spec_l19Places_Q1_1 v1_0 v1_1 v1_2 v1_3)) m x1_0 x1_1 x1_2 x1_3 x1_4
  | 0,x1_0,x1_1,x1_2,x1_3,x1_4=>LQ_zero ..
  | m+1,x1_0,x1_1,x1_2,x1_3,x1_4=>by
    have ih:(fun x1_0 x1_1 x1_2 x1_3 x1_4=>LQ funcTab D n 74 [.r,.l,.r,.l,.l,.r,.l,.l,.r,.r,.l] m (spec_l19Places_Q1 x1_0 x1_1 x1_2 x1_3 x1_4) K)=spec_l19Places_L1 D n (fun v0_0 v0_1 v0_2 v0_3 v0_4=>K (Ex.ret) (spec_l19Places_Q1_0 v0_0 v0_1 v0_2 v0_3 v0_4)) (fun v1_0 v1_1 v1_2 v1_3=>K (Ex.exit 2) (spec_l19Places_Q1_1 v1_0 v1_1 v1_2 v1_3)) m:=by funext x1_0 x1_1 x1_2 x1_3 x1_4;exact spec_l19Places_EL1 D n K m x1_0 x1_1 x1_2 x1_3 x1_4
    rw[spec_l19Places_SB1]
    rw[ih];rfl
theorem spec_l19Places_X1_0 (D:DX)(n:Nat) (m:Nat) (K:Ex→St→Option (Out ctx 74)) (v0_0:List Int) (v0_1:Int) (v0_2:Bool) (v0_3:Int) (v0_4:tSch) :
  (CQ funcTab D n 74 [.r,.l,.r,.l,.l] [.r,.l,.l,.r,.r,.l] (LK funcTab D n 74 [.r,.l,.r,.l] m K)) (Ex.ret) (spec_l19Places_Q1_0 v0_0 v0_1 v0_2 v0_3 v0_4)=spec_l19Places_x1_0 D n (fun x0 x1 x2 x3=>LQ funcTab D n 74 [.r,.l,.r,.l] m (spec_l19Places_Q0 x0 x1 x2 x3) K) (fun v0_0 v0_1 v0_2=>K (Ex.ret) (spec_l19Places_Q0_0 v0_0 v0_1 v0_2)) (fun v1_0 v1_1=>K (Ex.exit 0) (spec_l19Places_Q0_1 v1_0 v1_1)) v0_0 v0_1 v0_2 v0_3 v0_4:=by kernel_rfl
theorem spec_l19Places_X1_1 (D:DX)(n:Nat) (m:Nat) (K:Ex→St→Option (Out ctx 74)) (v1_0:List Int) (v1_1:Int) (v1_2:Int) (v1_3:tSch) :
  (CQ funcTab D n 74 [.r,.l,.r,.l,.l] [.r,.l,.l,.r,.r,.l] (LK funcTab D n 74 [.r,.l,.r,.l] m K)) (Ex.exit 2) (spec_l19Places_Q1_1 v1_0 v1_1 v1_2 v1_3)=spec_l19Places_x1_1 D n (fun x0 x1 x2 x3=>LQ funcTab D n 74 [.r,.l,.r,.l] m (spec_l19Places_Q0 x0 x1 x2 x3) K) (fun v0_0 v0_1 v0_2=>K (Ex.ret) (spec_l19Places_Q0_0 v0_0 v0_1 v0_2)) (fun v1_0 v1_1=>K (Ex.exit 0) (spec_l19Places_Q0_1 v1_0 v1_1)) v1_0 v1_1 v1_2 v1_3:=by kernel_rfl
theorem spec_l19Places_ELP1 (D:DX)(n:Nat) (m:Nat) (K:Ex→St→Option (Out ctx 74)) (x1_0:List Int) (x1_1:Int) (x1_2:Int) (x1_3:Int) (x1_4:tSch) :
  LQ funcTab D n 74 [.r,.l,.r,.l,.l,.r,.l,.l,.r,.r,.l] n (spec_l19Places_Q1 x1_0 x1_1 x1_2 x1_3 x1_4) (CQ funcTab D n 74 [.r,.l,.r,.l,.l] [.r,.l,.l,.r,.r,.l] (LK funcTab D n 74 [.r,.l,.r,.l] m K))=spec_l19Places_LP1 D n (fun x0 x1 x2 x3=>LQ funcTab D n 74 [.r,.l,.r,.l] m (spec_l19Places_Q0 x0 x1 x2 x3) K) (fun v0_0 v0_1 v0_2=>K (Ex.ret) (spec_l19Places_Q0_0 v0_0 v0_1 v0_2)) (fun v1_0 v1_1=>K (Ex.exit 0) (spec_l19Places_Q0_1 v1_0 v1_1)) x1_0 x1_1 x1_2 x1_3 x1_4:=by
  rw[spec_l19Places_EL1]
  simp only[spec_l19Places_X1_0,spec_l19Places_X1_1]
  rfl
theorem spec_l19Places_SB0 (D:DX)(n:Nat) (m:Nat) (K:Ex→St→Option (Out ctx 74)) (x0:List Int) (x1:Int) (x2:Int) (x3:tSch) :
  LQ funcTab D n 74 [.r,.l,.r,.l] (m+1) (spec_l19Places_Q0 x0 x1 x2 x3) K=spec_l19Places_b0 D n (fun x0 x1 x2 x3=>LQ funcTab D n 74 [.r,.l,.r,.l] m (spec_l19Places_Q0 x0 x1 x2 x3) K) (fun v0_0 v0_1 v0_2=>K (Ex.ret) (spec_l19Places_Q0_0 v0_0 v0_1 v0_2)) (fun v1_0 v1_1=>K (Ex.exit 0) (spec_l19Places_Q0_1 v1_0 v1_1)) (fun x1_0 x1_1 x1_2 x1_3 x1_4=>LQ funcTab D n 74 [.r,.l,.r,.l,.l,.r,.l,.l,.r,.r,.l] n (spec_l19Places_Q1 x1_0 x1_1 x1_2 x1_3 x1_4) (CQ funcTab D n 74 [.r,.l,.r,.l,.l] [.r,.l,.l,.r,.r,.l] (LK funcTab D n 74 [.r,.l,.r,.l] m K))) x0 x1 x2 x3:=by kernel_rfl
theorem spec_l19Places_EL0 (D:DX)(n:Nat) (K:Ex→St→Option (Out ctx 74)):∀ (m:Nat) (x0:List Int) (x1:Int) (x2:Int) (x3:tSch),LQ funcTab D n 74 [.r,.l,.r,.l] m (spec_l19Places_Q0 x0 x1 x2 x3) K=spec_l19Places_L0 D n (fun v0_0 v0_1 v0_2=>K (Ex.ret) (spec_l19Places_Q0_0 v0_0 v0_1 v0_2)) (fun v1_0 v1_1=>K (Ex.exit 0) (spec_l19Places_Q0_1 v1_0 v1_1)) m x0 x1 x2 x3
  | 0,x0,x1,x2,x3=>LQ_zero ..
  | m+1,x0,x1,x2,x3=>by
    have ih:(fun x0 x1 x2 x3=>LQ funcTab D n 74 [.r,.l,.r,.l] m (spec_l19Places_Q0 x0 x1 x2 x3) K)=spec_l19Places_L0 D n (fun v0_0 v0_1 v0_2=>K (Ex.ret) (spec_l19Places_Q0_0 v0_0 v0_1 v0_2)) (fun v1_0 v1_1=>K (Ex.exit 0) (spec_l19Places_Q0_1 v1_0 v1_1)) m:=by funext x0 x1 x2 x3;exact spec_l19Places_EL0 D n K m x0 x1 x2 x3
    rw[spec_l19Places_SB0]
    simp only[spec_l19Places_ELP1]
    rw[ih];rfl
theorem spec_l19Places_X0_0 (D:DX)(n:Nat) (v0_0:List Int) (v0_1:Int) (v0_2:Bool) :
  (CQ funcTab D n 74 [] [.r,.l,.r,.l] (lastK funcTab 74)) (Ex.ret) (spec_l19Places_Q0_0 v0_0 v0_1 v0_2)=spec_l19Places_x0_0 D n v0_0 v0_1 v0_2:=by kernel_rfl
theorem spec_l19Places_X0_1 (D:DX)(n:Nat) (v1_0:List Int) (v1_1:Int) :
  (CQ funcTab D n 74 [] [.r,.l,.r,.l] (lastK funcTab 74)) (Ex.exit 0) (spec_l19Places_Q0_1 v1_0 v1_1)=spec_l19Places_x0_1 D n v1_0 v1_1:=by kernel_rfl
theorem spec_l19Places_ELP0 (D:DX)(n:Nat) (x0:List Int) (x1:Int) (x2:Int) (x3:tSch) :
  LQ funcTab D n 74 [.r,.l,.r,.l] n (spec_l19Places_Q0 x0 x1 x2 x3) (CQ funcTab D n 74 [] [.r,.l,.r,.l] (lastK funcTab 74))=spec_l19Places_LP0 D n x0 x1 x2 x3:=by
  rw[spec_l19Places_EL0]
  simp only[spec_l19Places_X0_0,spec_l19Places_X0_1]
  rfl
theorem E_spec_l19Places (D:DX)(n:Nat) (a0:tSch) (a1:List Int) (a2:Int):rfC funcTab D n 74 (a0,(a1,(a2,())))=F_spec_l19Places D n a0 a1 a2:=by
  have h:rfC funcTab D n 74 (a0,(a1,(a2,())))=spec_l19Places_e D n (fun x0 x1 x2 x3=>LQ funcTab D n 74 [.r,.l,.r,.l] n (spec_l19Places_Q0 x0 x1 x2 x3) (CQ funcTab D n 74 [] [.r,.l,.r,.l] (lastK funcTab 74))) a0 a1 a2:=by kernel_rfl
  rw[h]
  simp only[spec_l19Places_ELP0]
  rfl

def spec_l19Indexes_b1 (D:DX)(n:Nat) (go:Int→Int→tSch→ByteArray×List Int×Bool×Unit→Option ((Bool×Unit)×Unit)) (K0:Bool→Int→tSch→Option ((Bool×Unit)×Unit)) (K1:Int→tSch→Option ((Bool×Unit)×Unit)) (x1_0:Int) (x1_1:Int) (x1_2:tSch) (x1_3:ByteArray×List Int×Bool×Unit):Option ((Bool×Unit)×Unit):=br (decide (x1_1<x1_0)) (br (decide (0≤x1_1)&&decide (x1_1<(↑(List.length (Prod.fst (Prod.snd (Prod.snd x1_2)))):Int))) (br (List.beq (ByteArray.toList (Prod.fst (List.getD (Prod.fst (Prod.snd (Prod.snd x1_2))) (Int.toNat x1_1) (ByteArray.empty,[],false,())))) (ByteArray.toList (Prod.fst x1_3))) (K0 false x1_0 x1_2) (go x1_0 (IntKind.wrap IntKind.i64 (x1_1+1)) x1_2 x1_3)) none) (K1 x1_0 x1_2)
def spec_l19Indexes_L1 (D:DX)(n:Nat) (K0:Bool→Int→tSch→Option ((Bool×Unit)×Unit)) (K1:Int→tSch→Option ((Bool×Unit)×Unit)):Nat→(Int)→(Int)→(tSch)→tIx→Option ((Bool×Unit)×Unit) | 0=>(fun x1_0 x1_1 x1_2 x1_3=>none) | m+1=>(fun x1_0 x1_1 x1_2 x1_3=>spec_l19Indexes_b1 D n (spec_l19Indexes_L1 D n K0 K1 m) K0 K1 x1_0 x1_1 x1_2 x1_3)
def spec_l19Indexes_x1_0 (D:DX)(n:Nat) (go:Int→tSch→Option ((Bool×Unit)×Unit)) (K0:Bool→tSch→Option ((Bool×Unit)×Unit)) (K1:tSch→Option ((Bool×Unit)×Unit)) (v0_0:Bool) (v0_1:Int) (v0_2:tSch):Option ((Bool×Unit)×Unit):=K0 v0_0 v0_2
def spec_l19Indexes_x1_1 (D:DX)(n:Nat) (go:Int→tSch→Option ((Bool×Unit)×Unit)) (K0:Bool→tSch→Option ((Bool×Unit)×Unit)) (K1:tSch→Option ((Bool×Unit)×Unit)) (v1_0:Int) (v1_1:tSch):Option ((Bool×Unit)×Unit):=go (IntKind.wrap IntKind.i64 (v1_0+1)) v1_1
def spec_l19Indexes_LP1 (D:DX)(n:Nat) (go:Int→tSch→Option ((Bool×Unit)×Unit)) (K0:Bool→tSch→Option ((Bool×Unit)×Unit)) (K1:tSch→Option ((Bool×Unit)×Unit)):(Int)→(Int)→(tSch)→tIx→Option ((Bool×Unit)×Unit):=(fun x1_0 x1_1 x1_2 x1_3=>spec_l19Indexes_L1 D n (fun v0_0 v0_1 v0_2=>spec_l19Indexes_x1_0 D n go K0 K1 v0_0 v0_1 v0_2) (fun v1_0 v1_1=>spec_l19Indexes_x1_1 D n go K0 K1 v1_0 v1_1) n x1_0 x1_1 x1_2 x1_3)
def spec_l19Indexes_b0 (D:DX)(n:Nat) (go:Int→tSch→Option ((Bool×Unit)×Unit)) (K0:Bool→tSch→Option ((Bool×Unit)×Unit)) (K1:tSch→Option ((Bool×Unit)×Unit)) (lp1:Int→Int→tSch→ByteArray×List Int×Bool×Unit→Option ((Bool×Unit)×Unit)) (x0:Int) (x1:tSch):Option ((Bool×Unit)×Unit):=br (decide (x0<(↑(List.length (Prod.fst (Prod.snd (Prod.snd x1)))):Int))) (br (decide (0≤x0)&&decide (x0<(↑(List.length (Prod.fst (Prod.snd (Prod.snd x1)))):Int))) (bindD (C_spec_ColNameOk D (Prod.fst (List.getD (Prod.fst (Prod.snd (Prod.snd x1))) (Int.toNat x0) (ByteArray.empty,[],false,())))) fun b↦br (!Prod.fst (Prod.fst b)) (K0 false x1) (bindD (C_spec_l19Places D x1 (Prod.fst (Prod.snd (List.getD (Prod.fst (Prod.snd (Prod.snd x1))) (Int.toNat x0) (ByteArray.empty,[],false,())))) 3) fun b↦br (!Prod.fst (Prod.fst b)) (K0 false x1) (lp1 x0 0 x1 (List.getD (Prod.fst (Prod.snd (Prod.snd x1))) (Int.toNat x0) (ByteArray.empty,[],false,()))))) none) (K1 x1)
def spec_l19Indexes_L0 (D:DX)(n:Nat) (K0:Bool→tSch→Option ((Bool×Unit)×Unit)) (K1:tSch→Option ((Bool×Unit)×Unit)):Nat→(Int)→(tSch)→Option ((Bool×Unit)×Unit) | 0=>(fun x0 x1=>none) | m+1=>(fun x0 x1=>spec_l19Indexes_b0 D n (spec_l19Indexes_L0 D n K0 K1 m) K0 K1 (spec_l19Indexes_LP1 D n (spec_l19Indexes_L0 D n K0 K1 m) K0 K1) x0 x1)
def spec_l19Indexes_x0_0 (D:DX)(n:Nat) (v0_0:Bool) (v0_1:tSch):Option ((Bool×Unit)×Unit):=some ((v0_0,()),())
def spec_l19Indexes_x0_1 (D:DX)(n:Nat) (v1_0:tSch):Option ((Bool×Unit)×Unit):=some ((decide ((↑(List.length (Prod.fst (Prod.snd (Prod.snd v1_0)))):Int)≤3),()),())
def spec_l19Indexes_LP0 (D:DX)(n:Nat):(Int)→(tSch)→Option ((Bool×Unit)×Unit):=(fun x0 x1=>spec_l19Indexes_L0 D n (fun v0_0 v0_1=>spec_l19Indexes_x0_0 D n v0_0 v0_1) (fun v1_0=>spec_l19Indexes_x0_1 D n v1_0) n x0 x1)
def spec_l19Indexes_e (D:DX)(n:Nat) (lp0:Int→tSch→Option ((Bool×Unit)×Unit)) (a0:tSch):Option ((Bool×Unit)×Unit):=lp0 0 a0
def F_spec_l19Indexes (D:DX)(n:Nat) (a0:tSch):Option ((Bool×Unit)×Unit):=spec_l19Indexes_e D n (spec_l19Indexes_LP0 D n) a0
def spec_l19Indexes_Q0 (x0:Int) (x1:tSch):St:=stq 47 [(1,AV.addr 1 []),(3,avI x0)] [(1,Root.mk yS Mk.no x1 true)] 
def spec_l19Indexes_Q0_0 (v0_0:Bool) (v0_1:tSch):St:=stq 47 [(1,AV.addr 1 []),(2,AV.val Ty.bool v0_0)] [(1,Root.mk yS Mk.no v0_1 true)] 
def spec_l19Indexes_Q0_1 (v1_0:tSch):St:=stq 47 [(1,AV.addr 1 [])] [(1,Root.mk yS Mk.no v1_0 true)] 
def spec_l19Indexes_Q1 (x1_0:Int) (x1_1:Int) (x1_2:tSch) (x1_3:ByteArray×List Int×Bool×Unit):St:=stq 47 [(1,AV.addr 1 []),(3,avI x1_0),(4,AV.addr 4 []),(5,avI x1_1)] [(1,Root.mk yS Mk.no x1_2 true),(4,Root.mk yX Mk.no x1_3 true)] 
def spec_l19Indexes_Q1_0 (v0_0:Bool) (v0_1:Int) (v0_2:tSch):St:=stq 47 [(1,AV.addr 1 []),(2,AV.val Ty.bool v0_0),(3,avI v0_1)] [(1,Root.mk yS Mk.no v0_2 true)] 
def spec_l19Indexes_Q1_1 (v1_0:Int) (v1_1:tSch):St:=stq 47 [(1,AV.addr 1 []),(3,avI v1_0)] [(1,Root.mk yS Mk.no v1_1 true)] 
theorem spec_l19Indexes_SB1 (D:DX)(n:Nat) (m:Nat) (K:Ex→St→Option (Out ctx 75)) (x1_0:Int) (x1_1:Int) (x1_2:tSch) (x1_3:ByteArray×List Int×Bool×Unit) :
  LQ funcTab D n 75 [.r,.l,.r,.l,.l,.r,.l,.l,.r,.r,.r,.l] (m+1) (spec_l19Indexes_Q1 x1_0 x1_1 x1_2 x1_3) K=spec_l19Indexes_b1 D n (fun x1_0 x1_1 x1_2 x1_3=>LQ funcTab D n 75 [.r,.l,.r,.l,.l,.r,.l,.l,.r,.r,.r,.l] m (spec_l19Indexes_Q1 x1_0 x1_1 x1_2 x1_3) K) (fun v0_0 v0_1 v0_2=>K (Ex.ret) (spec_l19Indexes_Q1_0 v0_0 v0_1 v0_2)) (fun v1_0 v1_1=>K (Ex.exit 2) (spec_l19Indexes_Q1_1 v1_0 v1_1)) x1_0 x1_1 x1_2 x1_3:=by kernel_rfl
theorem spec_l19Indexes_EL1 (D:DX)(n:Nat) (K:Ex→St→Option (Out ctx 75)):∀ (m:Nat) (x1_0:Int) (x1_1:Int) (x1_2:tSch) (x1_3:ByteArray×List Int×Bool×Unit),LQ funcTab D n 75 [.r,.l,.r,.l,.l,.r,.l,.l,.r,.r,.r,.l] m (spec_l19Indexes_Q1 x1_0 x1_1 x1_2 x1_3) K=spec_l19Indexes_L1 D n (fun v0_0 v0_1 v0_2=>K (Ex.ret) (spec_l19Indexes_Q1_0 v0_0 v0_1 v0_2)) (fun v1_0 v1_1=>K (Ex.exit 2) (spec_l19Indexes_Q1_1 v1_0 v1_1)) m x1_0 x1_1 x1_2 x1_3
  | 0,x1_0,x1_1,x1_2,x1_3=>LQ_zero ..
  | m+1,x1_0,x1_1,x1_2,x1_3=>by
    have ih:(fun x1_0 x1_1 x1_2 x1_3=>LQ funcTab D n 75 [.r,.l,.r,.l,.l,.r,.l,.l,.r,.r,.r,.l] m (spec_l19Indexes_Q1 x1_0 x1_1 x1_2 x1_3) K)=spec_l19Indexes_L1 D n (fun v0_0 v0_1 v0_2=>K (Ex.ret) (spec_l19Indexes_Q1_0 v0_0 v0_1 v0_2)) (fun v1_0 v1_1=>K (Ex.exit 2) (spec_l19Indexes_Q1_1 v1_0 v1_1)) m:=by funext x1_0 x1_1 x1_2 x1_3;exact spec_l19Indexes_EL1 D n K m x1_0 x1_1 x1_2 x1_3
    rw[spec_l19Indexes_SB1]
    rw[ih];rfl
theorem spec_l19Indexes_X1_0 (D:DX)(n:Nat) (m:Nat) (K:Ex→St→Option (Out ctx 75)) (v0_0:Bool) (v0_1:Int) (v0_2:tSch) :
  (CQ funcTab D n 75 [.r,.l,.r,.l,.l] [.r,.l,.l,.r,.r,.r,.l] (LK funcTab D n 75 [.r,.l,.r,.l] m K)) (Ex.ret) (spec_l19Indexes_Q1_0 v0_0 v0_1 v0_2)=spec_l19Indexes_x1_0 D n (fun x0 x1=>LQ funcTab D n 75 [.r,.l,.r,.l] m (spec_l19Indexes_Q0 x0 x1) K) (fun v0_0 v0_1=>K (Ex.ret) (spec_l19Indexes_Q0_0 v0_0 v0_1)) (fun v1_0=>K (Ex.exit 0) (spec_l19Indexes_Q0_1 v1_0)) v0_0 v0_1 v0_2:=by kernel_rfl
theorem spec_l19Indexes_X1_1 (D:DX)(n:Nat) (m:Nat) (K:Ex→St→Option (Out ctx 75)) (v1_0:Int) (v1_1:tSch) :
  (CQ funcTab D n 75 [.r,.l,.r,.l,.l] [.r,.l,.l,.r,.r,.r,.l] (LK funcTab D n 75 [.r,.l,.r,.l] m K)) (Ex.exit 2) (spec_l19Indexes_Q1_1 v1_0 v1_1)=spec_l19Indexes_x1_1 D n (fun x0 x1=>LQ funcTab D n 75 [.r,.l,.r,.l] m (spec_l19Indexes_Q0 x0 x1) K) (fun v0_0 v0_1=>K (Ex.ret) (spec_l19Indexes_Q0_0 v0_0 v0_1)) (fun v1_0=>K (Ex.exit 0) (spec_l19Indexes_Q0_1 v1_0)) v1_0 v1_1:=by kernel_rfl
theorem spec_l19Indexes_ELP1 (D:DX)(n:Nat) (m:Nat) (K:Ex→St→Option (Out ctx 75)) (x1_0:Int) (x1_1:Int) (x1_2:tSch) (x1_3:ByteArray×List Int×Bool×Unit) :
  LQ funcTab D n 75 [.r,.l,.r,.l,.l,.r,.l,.l,.r,.r,.r,.l] n (spec_l19Indexes_Q1 x1_0 x1_1 x1_2 x1_3) (CQ funcTab D n 75 [.r,.l,.r,.l,.l] [.r,.l,.l,.r,.r,.r,.l] (LK funcTab D n 75 [.r,.l,.r,.l] m K))=spec_l19Indexes_LP1 D n (fun x0 x1=>LQ funcTab D n 75 [.r,.l,.r,.l] m (spec_l19Indexes_Q0 x0 x1) K) (fun v0_0 v0_1=>K (Ex.ret) (spec_l19Indexes_Q0_0 v0_0 v0_1)) (fun v1_0=>K (Ex.exit 0) (spec_l19Indexes_Q0_1 v1_0)) x1_0 x1_1 x1_2 x1_3:=by
  rw[spec_l19Indexes_EL1]
  simp only[spec_l19Indexes_X1_0,spec_l19Indexes_X1_1]
  rfl
theorem spec_l19Indexes_SB0 (D:DX)(n:Nat) (m:Nat) (K:Ex→St→Option (Out ctx 75)) (x0:Int) (x1:tSch) :
  LQ funcTab D n 75 [.r,.l,.r,.l] (m+1) (spec_l19Indexes_Q0 x0 x1) K=spec_l19Indexes_b0 D n (fun x0 x1=>LQ funcTab D n 75 [.r,.l,.r,.l] m (spec_l19Indexes_Q0 x0 x1) K) (fun v0_0 v0_1=>K (Ex.ret) (spec_l19Indexes_Q0_0 v0_0 v0_1)) (fun v1_0=>K (Ex.exit 0) (spec_l19Indexes_Q0_1 v1_0)) (fun x1_0 x1_1 x1_2 x1_3=>LQ funcTab D n 75 [.r,.l,.r,.l,.l,.r,.l,.l,.r,.r,.r,.l] n (spec_l19Indexes_Q1 x1_0 x1_1 x1_2 x1_3) (CQ funcTab D n 75 [.r,.l,.r,.l,.l] [.r,.l,.l,.r,.r,.r,.l] (LK funcTab D n 75 [.r,.l,.r,.l] m K))) x0 x1:=by kernel_rfl
theorem spec_l19Indexes_EL0 (D:DX)(n:Nat) (K:Ex→St→Option (Out ctx 75)):∀ (m:Nat) (x0:Int) (x1:tSch),LQ funcTab D n 75 [.r,.l,.r,.l] m (spec_l19Indexes_Q0 x0 x1) K=spec_l19Indexes_L0 D n (fun v0_0 v0_1=>K (Ex.ret) (spec_l19Indexes_Q0_0 v0_0 v0_1)) (fun v1_0=>K (Ex.exit 0) (spec_l19Indexes_Q0_1 v1_0)) m x0 x1
  | 0,x0,x1=>LQ_zero ..
  | m+1,x0,x1=>by
    have ih:(fun x0 x1=>LQ funcTab D n 75 [.r,.l,.r,.l] m (spec_l19Indexes_Q0 x0 x1) K)=spec_l19Indexes_L0 D n (fun v0_0 v0_1=>K (Ex.ret) (spec_l19Indexes_Q0_0 v0_0 v0_1)) (fun v1_0=>K (Ex.exit 0) (spec_l19Indexes_Q0_1 v1_0)) m:=by funext x0 x1;exact spec_l19Indexes_EL0 D n K m x0 x1
    rw[spec_l19Indexes_SB0]
    simp only[spec_l19Indexes_ELP1]
    rw[ih];rfl
theorem spec_l19Indexes_X0_0 (D:DX)(n:Nat) (v0_0:Bool) (v0_1:tSch) :
  (CQ funcTab D n 75 [] [.r,.l,.r,.l] (lastK funcTab 75)) (Ex.ret) (spec_l19Indexes_Q0_0 v0_0 v0_1)=spec_l19Indexes_x0_0 D n v0_0 v0_1:=by kernel_rfl
theorem spec_l19Indexes_X0_1 (D:DX)(n:Nat) (v1_0:tSch) :
  (CQ funcTab D n 75 [] [.r,.l,.r,.l] (lastK funcTab 75)) (Ex.exit 0) (spec_l19Indexes_Q0_1 v1_0)=spec_l19Indexes_x0_1 D n v1_0:=by kernel_rfl
theorem spec_l19Indexes_ELP0 (D:DX)(n:Nat) (x0:Int) (x1:tSch) :
  LQ funcTab D n 75 [.r,.l,.r,.l] n (spec_l19Indexes_Q0 x0 x1) (CQ funcTab D n 75 [] [.r,.l,.r,.l] (lastK funcTab 75))=spec_l19Indexes_LP0 D n x0 x1:=by
  rw[spec_l19Indexes_EL0]
  simp only[spec_l19Indexes_X0_0,spec_l19Indexes_X0_1]
  rfl
theorem E_spec_l19Indexes (D:DX)(n:Nat) (a0:tSch):rfC funcTab D n 75 (a0,())=F_spec_l19Indexes D n a0:=by
  have h:rfC funcTab D n 75 (a0,())=spec_l19Indexes_e D n (fun x0 x1=>LQ funcTab D n 75 [.r,.l,.r,.l] n (spec_l19Indexes_Q0 x0 x1) (CQ funcTab D n 75 [] [.r,.l,.r,.l] (lastK funcTab 75))) a0:=by kernel_rfl
  rw[h]
  simp only[spec_l19Indexes_ELP0]
  rfl

def laws_toColS_b0 (D:DX)(n:Nat) (go:tCols→Int→tCols→Option ((tCols×Unit)×Unit)) (K0:tCols→Option ((tCols×Unit)×Unit)) (x0:tCols) (x1:Int) (x2:tCols):Option ((tCols×Unit)×Unit):=br (decide (x1<(↑(List.length x0):Int))) (br (decide (0≤x1)&&decide (x1<(↑(List.length x0):Int))) (bindD (C_laws_toCol D (List.getD x0 (Int.toNat x1) (ByteArray.empty,0,false,()))) fun b↦br (decide (0≤x1)&&decide (x1<(↑(List.length x2):Int))) (go x0 (IntKind.wrap IntKind.i64 (x1+1)) (List.set x2 (Int.toNat x1) (Prod.fst (Prod.fst b)))) none) none) (K0 x2)
def laws_toColS_L0 (D:DX)(n:Nat) (K0:tCols→Option ((tCols×Unit)×Unit)):Nat→(tCols)→(Int)→(tCols)→Option ((tCols×Unit)×Unit) | 0=>(fun x0 x1 x2=>none) | m+1=>(fun x0 x1 x2=>laws_toColS_b0 D n (laws_toColS_L0 D n K0 m) K0 x0 x1 x2)
def laws_toColS_x0_0 (D:DX)(n:Nat) (v0_0:tCols):Option ((tCols×Unit)×Unit):=some ((v0_0,()),())
def laws_toColS_LP0 (D:DX)(n:Nat):(tCols)→(Int)→(tCols)→Option ((tCols×Unit)×Unit):=(fun x0 x1 x2=>laws_toColS_L0 D n (fun v0_0=>laws_toColS_x0_0 D n v0_0) n x0 x1 x2)
def laws_toColS_e (D:DX)(n:Nat) (lp0:tCols→Int→tCols→Option ((tCols×Unit)×Unit)) (a0:tCols):Option ((tCols×Unit)×Unit):=br (decide (0≤(↑(List.length a0):Int))&&decide ((↑(List.length a0):Int)≤(↑(List.length a0):Int))&&decide ((↑(List.length a0):Int)≤(↑bound:Int))) (lp0 a0 0 (List.replicate (Int.toNat (↑(List.length a0):Int)) (ByteArray.empty,0,false,()))) none
def F_laws_toColS (D:DX)(n:Nat) (a0:tCols):Option ((tCols×Unit)×Unit):=laws_toColS_e D n (laws_toColS_LP0 D n) a0
def laws_toColS_Q0 (x0:tCols) (x1:Int) (x2:tCols):St:=stq 23 [(0,AV.val (Ty.sl yC) x0),(3,AV.brw 3 [] 0),(4,avI x1)] [(3,Root.mk (Ty.sl yC) (Mk.own 0 (Mk.pr Mk.no (Mk.pr Mk.no (Mk.pr Mk.no Mk.no)))) x2 false)] 
def laws_toColS_Q0_0 (v0_0:tCols):St:=stq 23 [(3,AV.brw 3 [] 0)] [(3,Root.mk (Ty.sl yC) (Mk.own 0 (Mk.pr Mk.no (Mk.pr Mk.no (Mk.pr Mk.no Mk.no)))) v0_0 false)] 
theorem laws_toColS_SB0 (D:DX)(n:Nat) (m:Nat) (K:Ex→St→Option (Out ctx 76)) (x0:tCols) (x1:Int) (x2:tCols) :
  LQ funcTab D n 76 [.r,.r,.l,.r,.l] (m+1) (laws_toColS_Q0 x0 x1 x2) K=laws_toColS_b0 D n (fun x0 x1 x2=>LQ funcTab D n 76 [.r,.r,.l,.r,.l] m (laws_toColS_Q0 x0 x1 x2) K) (fun v0_0=>K (Ex.exit 0) (laws_toColS_Q0_0 v0_0)) x0 x1 x2:=by kernel_rfl
theorem laws_toColS_EL0 (D:DX)(n:Nat) (K:Ex→St→Option (Out ctx 76)):∀ (m:Nat) (x0:tCols) (x1:Int) (x2:tCols),LQ funcTab D n 76 [.r,.r,.l,.r,.l] m (laws_toColS_Q0 x0 x1 x2) K=laws_toColS_L0 D n (fun v0_0=>K (Ex.exit 0) (laws_toColS_Q0_0 v0_0)) m x0 x1 x2
  | 0,x0,x1,x2=>LQ_zero ..
  | m+1,x0,x1,x2=>by
    have ih:(fun x0 x1 x2=>LQ funcTab D n 76 [.r,.r,.l,.r,.l] m (laws_toColS_Q0 x0 x1 x2) K)=laws_toColS_L0 D n (fun v0_0=>K (Ex.exit 0) (laws_toColS_Q0_0 v0_0)) m:=by funext x0 x1 x2;exact laws_toColS_EL0 D n K m x0 x1 x2
    rw[laws_toColS_SB0]
    rw[ih];rfl
theorem laws_toColS_X0_0 (D:DX)(n:Nat) (v0_0:tCols) :
  (CQ funcTab D n 76 [] [.r,.r,.l,.r,.l] (lastK funcTab 76)) (Ex.exit 0) (laws_toColS_Q0_0 v0_0)=laws_toColS_x0_0 D n v0_0:=by kernel_rfl
theorem laws_toColS_ELP0 (D:DX)(n:Nat) (x0:tCols) (x1:Int) (x2:tCols) :
  LQ funcTab D n 76 [.r,.r,.l,.r,.l] n (laws_toColS_Q0 x0 x1 x2) (CQ funcTab D n 76 [] [.r,.r,.l,.r,.l] (lastK funcTab 76))=laws_toColS_LP0 D n x0 x1 x2:=by
  rw[laws_toColS_EL0]
  simp only[laws_toColS_X0_0]
  rfl
theorem E_laws_toColS (D:DX)(n:Nat) (a0:tCols):rfC funcTab D n 76 (a0,())=F_laws_toColS D n a0:=by
  have h:rfC funcTab D n 76 (a0,())=laws_toColS_e D n (fun x0 x1 x2=>LQ funcTab D n 76 [.r,.r,.l,.r,.l] n (laws_toColS_Q0 x0 x1 x2) (CQ funcTab D n 76 [] [.r,.r,.l,.r,.l] (lastK funcTab 76))) a0:=by kernel_rfl
  rw[h]
  simp only[laws_toColS_ELP0]
  rfl

def laws_toIntS_b0 (D:DX)(n:Nat) (go:List Int→Int→List Int→Option ((List Int×Unit)×Unit)) (K0:List Int→Option ((List Int×Unit)×Unit)) (x0:List Int) (x1:Int) (x2:List Int):Option ((List Int×Unit)×Unit):=br (decide (x1<(↑(List.length x0):Int))) (br (decide (0≤x1)&&decide (x1<(↑(List.length x0):Int))) (br (decide (0≤x1)&&decide (x1<(↑(List.length x2):Int))) (go x0 (IntKind.wrap IntKind.i64 (x1+1)) (List.set x2 (Int.toNat x1) (List.getD x0 (Int.toNat x1) 0))) none) none) (K0 x2)
def laws_toIntS_L0 (D:DX)(n:Nat) (K0:List Int→Option ((List Int×Unit)×Unit)):Nat→(List Int)→(Int)→(List Int)→Option ((List Int×Unit)×Unit) | 0=>(fun x0 x1 x2=>none) | m+1=>(fun x0 x1 x2=>laws_toIntS_b0 D n (laws_toIntS_L0 D n K0 m) K0 x0 x1 x2)
def laws_toIntS_x0_0 (D:DX)(n:Nat) (v0_0:List Int):Option ((List Int×Unit)×Unit):=some ((v0_0,()),())
def laws_toIntS_LP0 (D:DX)(n:Nat):(List Int)→(Int)→(List Int)→Option ((List Int×Unit)×Unit):=(fun x0 x1 x2=>laws_toIntS_L0 D n (fun v0_0=>laws_toIntS_x0_0 D n v0_0) n x0 x1 x2)
def laws_toIntS_e (D:DX)(n:Nat) (lp0:List Int→Int→List Int→Option ((List Int×Unit)×Unit)) (a0:List Int):Option ((List Int×Unit)×Unit):=br (decide (0≤(↑(List.length a0):Int))&&decide ((↑(List.length a0):Int)≤(↑(List.length a0):Int))&&decide ((↑(List.length a0):Int)≤(↑bound:Int))) (lp0 a0 0 (List.replicate (Int.toNat (↑(List.length a0):Int)) 0)) none
def F_laws_toIntS (D:DX)(n:Nat) (a0:List Int):Option ((List Int×Unit)×Unit):=laws_toIntS_e D n (laws_toIntS_LP0 D n) a0
def laws_toIntS_Q0 (x0:List Int) (x1:Int) (x2:List Int):St:=stq 22 [(0,AV.val (Ty.sl yI) x0),(3,AV.brw 3 [] 0),(4,avI x1)] [(3,Root.mk (Ty.sl yI) (Mk.own 0 Mk.no) x2 false)] 
def laws_toIntS_Q0_0 (v0_0:List Int):St:=stq 22 [(3,AV.brw 3 [] 0)] [(3,Root.mk (Ty.sl yI) (Mk.own 0 Mk.no) v0_0 false)] 
theorem laws_toIntS_SB0 (D:DX)(n:Nat) (m:Nat) (K:Ex→St→Option (Out ctx 77)) (x0:List Int) (x1:Int) (x2:List Int) :
  LQ funcTab D n 77 [.r,.r,.l,.r,.l] (m+1) (laws_toIntS_Q0 x0 x1 x2) K=laws_toIntS_b0 D n (fun x0 x1 x2=>LQ funcTab D n 77 [.r,.r,.l,.r,.l] m (laws_toIntS_Q0 x0 x1 x2) K) (fun v0_0=>K (Ex.exit 0) (laws_toIntS_Q0_0 v0_0)) x0 x1 x2:=by kernel_rfl
theorem laws_toIntS_EL0 (D:DX)(n:Nat) (K:Ex→St→Option (Out ctx 77)):∀ (m:Nat) (x0:List Int) (x1:Int) (x2:List Int),LQ funcTab D n 77 [.r,.r,.l,.r,.l] m (laws_toIntS_Q0 x0 x1 x2) K=laws_toIntS_L0 D n (fun v0_0=>K (Ex.exit 0) (laws_toIntS_Q0_0 v0_0)) m x0 x1 x2
  | 0,x0,x1,x2=>LQ_zero ..
  | m+1,x0,x1,x2=>by
    have ih:(fun x0 x1 x2=>LQ funcTab D n 77 [.r,.r,.l,.r,.l] m (laws_toIntS_Q0 x0 x1 x2) K)=laws_toIntS_L0 D n (fun v0_0=>K (Ex.exit 0) (laws_toIntS_Q0_0 v0_0)) m:=by funext x0 x1 x2;exact laws_toIntS_EL0 D n K m x0 x1 x2
    rw[laws_toIntS_SB0]
    rw[ih];rfl
theorem laws_toIntS_X0_0 (D:DX)(n:Nat) (v0_0:List Int) :
  (CQ funcTab D n 77 [] [.r,.r,.l,.r,.l] (lastK funcTab 77)) (Ex.exit 0) (laws_toIntS_Q0_0 v0_0)=laws_toIntS_x0_0 D n v0_0:=by kernel_rfl
theorem laws_toIntS_ELP0 (D:DX)(n:Nat) (x0:List Int) (x1:Int) (x2:List Int) :
  LQ funcTab D n 77 [.r,.r,.l,.r,.l] n (laws_toIntS_Q0 x0 x1 x2) (CQ funcTab D n 77 [] [.r,.r,.l,.r,.l] (lastK funcTab 77))=laws_toIntS_LP0 D n x0 x1 x2:=by
  rw[laws_toIntS_EL0]
  simp only[laws_toIntS_X0_0]
  rfl
theorem E_laws_toIntS (D:DX)(n:Nat) (a0:List Int):rfC funcTab D n 77 (a0,())=F_laws_toIntS D n a0:=by
  have h:rfC funcTab D n 77 (a0,())=laws_toIntS_e D n (fun x0 x1 x2=>LQ funcTab D n 77 [.r,.r,.l,.r,.l] n (laws_toIntS_Q0 x0 x1 x2) (CQ funcTab D n 77 [] [.r,.r,.l,.r,.l] (lastK funcTab 77))) a0:=by kernel_rfl
  rw[h]
  simp only[laws_toIntS_ELP0]
  rfl

def laws_toIndexS_b0 (D:DX)(n:Nat) (go:tIxs→Int→tIxs→Option ((tIxs×Unit)×Unit)) (K0:tIxs→Option ((tIxs×Unit)×Unit)) (x0:tIxs) (x1:Int) (x2:tIxs):Option ((tIxs×Unit)×Unit):=br (decide (x1<(↑(List.length x0):Int))) (br (decide (0≤x1)&&decide (x1<(↑(List.length x0):Int))) (bindD (C_laws_toIndex D (List.getD x0 (Int.toNat x1) (ByteArray.empty,[],false,()))) fun b↦br (decide (0≤x1)&&decide (x1<(↑(List.length x2):Int))) (go x0 (IntKind.wrap IntKind.i64 (x1+1)) (List.set x2 (Int.toNat x1) (Prod.fst (Prod.fst (Prod.fst b)),Prod.fst (Prod.snd (Prod.fst (Prod.fst b))),Prod.snd (Prod.snd (Prod.fst (Prod.fst b)))))) none) none) (K0 x2)
def laws_toIndexS_L0 (D:DX)(n:Nat) (K0:tIxs→Option ((tIxs×Unit)×Unit)):Nat→(tIxs)→(Int)→(tIxs)→Option ((tIxs×Unit)×Unit) | 0=>(fun x0 x1 x2=>none) | m+1=>(fun x0 x1 x2=>laws_toIndexS_b0 D n (laws_toIndexS_L0 D n K0 m) K0 x0 x1 x2)
def laws_toIndexS_x0_0 (D:DX)(n:Nat) (v0_0:tIxs):Option ((tIxs×Unit)×Unit):=some ((v0_0,()),())
def laws_toIndexS_LP0 (D:DX)(n:Nat):(tIxs)→(Int)→(tIxs)→Option ((tIxs×Unit)×Unit):=(fun x0 x1 x2=>laws_toIndexS_L0 D n (fun v0_0=>laws_toIndexS_x0_0 D n v0_0) n x0 x1 x2)
def laws_toIndexS_e (D:DX)(n:Nat) (lp0:tIxs→Int→tIxs→Option ((tIxs×Unit)×Unit)) (a0:tIxs):Option ((tIxs×Unit)×Unit):=br (decide (0≤(↑(List.length a0):Int))&&decide ((↑(List.length a0):Int)≤(↑(List.length a0):Int))&&decide ((↑(List.length a0):Int)≤(↑bound:Int))) (lp0 a0 0 (List.replicate (Int.toNat (↑(List.length a0):Int)) (ByteArray.empty,[],false,()))) none
def F_laws_toIndexS (D:DX)(n:Nat) (a0:tIxs):Option ((tIxs×Unit)×Unit):=laws_toIndexS_e D n (laws_toIndexS_LP0 D n) a0
def laws_toIndexS_Q0 (x0:tIxs) (x1:Int) (x2:tIxs):St:=stq 23 [(0,AV.val (Ty.sl yX) x0),(3,AV.brw 3 [] 0),(4,avI x1)] [(3,Root.mk (Ty.sl yX) (Mk.own 0 (Mk.pr Mk.no (Mk.pr (Mk.own 0 Mk.no) (Mk.pr Mk.no Mk.no)))) x2 false)] 
def laws_toIndexS_Q0_0 (v0_0:tIxs):St:=stq 23 [(3,AV.brw 3 [] 0)] [(3,Root.mk (Ty.sl yX) (Mk.own 0 (Mk.pr Mk.no (Mk.pr (Mk.own 0 Mk.no) (Mk.pr Mk.no Mk.no)))) v0_0 false)] 
theorem laws_toIndexS_SB0 (D:DX)(n:Nat) (m:Nat) (K:Ex→St→Option (Out ctx 78)) (x0:tIxs) (x1:Int) (x2:tIxs) :
  LQ funcTab D n 78 [.r,.r,.l,.r,.l] (m+1) (laws_toIndexS_Q0 x0 x1 x2) K=laws_toIndexS_b0 D n (fun x0 x1 x2=>LQ funcTab D n 78 [.r,.r,.l,.r,.l] m (laws_toIndexS_Q0 x0 x1 x2) K) (fun v0_0=>K (Ex.exit 0) (laws_toIndexS_Q0_0 v0_0)) x0 x1 x2:=by kernel_rfl
theorem laws_toIndexS_EL0 (D:DX)(n:Nat) (K:Ex→St→Option (Out ctx 78)):∀ (m:Nat) (x0:tIxs) (x1:Int) (x2:tIxs),LQ funcTab D n 78 [.r,.r,.l,.r,.l] m (laws_toIndexS_Q0 x0 x1 x2) K=laws_toIndexS_L0 D n (fun v0_0=>K (Ex.exit 0) (laws_toIndexS_Q0_0 v0_0)) m x0 x1 x2
  | 0,x0,x1,x2=>LQ_zero ..
  | m+1,x0,x1,x2=>by
    have ih:(fun x0 x1 x2=>LQ funcTab D n 78 [.r,.r,.l,.r,.l] m (laws_toIndexS_Q0 x0 x1 x2) K)=laws_toIndexS_L0 D n (fun v0_0=>K (Ex.exit 0) (laws_toIndexS_Q0_0 v0_0)) m:=by funext x0 x1 x2;exact laws_toIndexS_EL0 D n K m x0 x1 x2
    rw[laws_toIndexS_SB0]
    rw[ih];rfl
theorem laws_toIndexS_X0_0 (D:DX)(n:Nat) (v0_0:tIxs) :
  (CQ funcTab D n 78 [] [.r,.r,.l,.r,.l] (lastK funcTab 78)) (Ex.exit 0) (laws_toIndexS_Q0_0 v0_0)=laws_toIndexS_x0_0 D n v0_0:=by kernel_rfl
theorem laws_toIndexS_ELP0 (D:DX)(n:Nat) (x0:tIxs) (x1:Int) (x2:tIxs) :
  LQ funcTab D n 78 [.r,.r,.l,.r,.l] n (laws_toIndexS_Q0 x0 x1 x2) (CQ funcTab D n 78 [] [.r,.r,.l,.r,.l] (lastK funcTab 78))=laws_toIndexS_LP0 D n x0 x1 x2:=by
  rw[laws_toIndexS_EL0]
  simp only[laws_toIndexS_X0_0]
  rfl
theorem E_laws_toIndexS (D:DX)(n:Nat) (a0:tIxs):rfC funcTab D n 78 (a0,())=F_laws_toIndexS D n a0:=by
  have h:rfC funcTab D n 78 (a0,())=laws_toIndexS_e D n (fun x0 x1 x2=>LQ funcTab D n 78 [.r,.r,.l,.r,.l] n (laws_toIndexS_Q0 x0 x1 x2) (CQ funcTab D n 78 [] [.r,.r,.l,.r,.l] (lastK funcTab 78))) a0:=by kernel_rfl
  rw[h]
  simp only[laws_toIndexS_ELP0]
  rfl

def impl_from_e (D:DX)(n:Nat) (a0:Int) (a1:Int) (a2:Int):Option ((Bool×Unit)×Unit):=some ((bif decide (a0≥a1) then decide (a0≤a2) else false,()),())
def F_impl_from (D:DX)(n:Nat) (a0:Int) (a1:Int) (a2:Int):Option ((Bool×Unit)×Unit):=impl_from_e D n a0 a1 a2
theorem E_impl_from (D:DX)(n:Nat) (a0:Int) (a1:Int) (a2:Int):rfC funcTab D n 79 (a0,(a1,(a2,())))=F_impl_from D n a0 a1 a2:=by kernel_rfl

def impl_placesOk_b0 (D:DX)(n:Nat) (go:List Int→Int→List Int→Int→Int→tSch→Option ((Bool×Unit)×Unit)) (K0:List Int→Int→Bool→Option ((Bool×Unit)×Unit)) (K1:List Int→Int→Option ((Bool×Unit)×Unit)) (x0:List Int) (x1:Int) (x2:List Int) (x3:Int) (x4:Int) (x5:tSch):Option ((Bool×Unit)×Unit):=br (decide (x4<x3)) (br (decide (0≤x4)&&decide (x4<(↑(List.length x2):Int))) (bindD (C_impl_from D (List.getD x2 (Int.toNat x4) 0) 0 (IntKind.wrap IntKind.i64 ((↑(List.length (Prod.fst x5)):Int) - 1))) fun b↦br (!Prod.fst (Prod.fst b)) (K0 x0 x1 false) (br (decide (0≤0)&&decide (0≤x4)&&decide (x4≤(↑(List.length x0):Int))) (bindD (C_slices_Contains_int_int D (List.drop (Int.toNat 0) (List.take (Int.toNat x4) x0)) (List.getD x2 (Int.toNat x4) 0)) fun b↦br (Prod.fst (Prod.fst b)) (K0 x0 x1 false) (go x0 x1 x2 x3 (IntKind.wrap IntKind.i64 (x4+1)) x5)) none)) none) (K1 x0 x1)
def impl_placesOk_L0 (D:DX)(n:Nat) (K0:List Int→Int→Bool→Option ((Bool×Unit)×Unit)) (K1:List Int→Int→Option ((Bool×Unit)×Unit)):Nat→(List Int)→(Int)→(List Int)→(Int)→(Int)→(tSch)→Option ((Bool×Unit)×Unit) | 0=>(fun x0 x1 x2 x3 x4 x5=>none) | m+1=>(fun x0 x1 x2 x3 x4 x5=>impl_placesOk_b0 D n (impl_placesOk_L0 D n K0 K1 m) K0 K1 x0 x1 x2 x3 x4 x5)
def impl_placesOk_x0_0 (D:DX)(n:Nat) (v0_0:List Int) (v0_1:Int) (v0_2:Bool):Option ((Bool×Unit)×Unit):=some ((v0_2,()),())
def impl_placesOk_x0_1 (D:DX)(n:Nat) (v1_0:List Int) (v1_1:Int):Option ((Bool×Unit)×Unit):=bindD (C_impl_from D (↑(List.length v1_0):Int) 1 v1_1) fun b↦some ((Prod.fst (Prod.fst b),()),())
def impl_placesOk_LP0 (D:DX)(n:Nat):(List Int)→(Int)→(List Int)→(Int)→(Int)→(tSch)→Option ((Bool×Unit)×Unit):=(fun x0 x1 x2 x3 x4 x5=>impl_placesOk_L0 D n (fun v0_0 v0_1 v0_2=>impl_placesOk_x0_0 D n v0_0 v0_1 v0_2) (fun v1_0 v1_1=>impl_placesOk_x0_1 D n v1_0 v1_1) n x0 x1 x2 x3 x4 x5)
def impl_placesOk_e (D:DX)(n:Nat) (lp0:List Int→Int→List Int→Int→Int→tSch→Option ((Bool×Unit)×Unit)) (a0:tSch) (a1:List Int) (a2:Int):Option ((Bool×Unit)×Unit):=lp0 a1 a2 a1 (↑(List.length a1):Int) 0 a0
def F_impl_placesOk (D:DX)(n:Nat) (a0:tSch) (a1:List Int) (a2:Int):Option ((Bool×Unit)×Unit):=impl_placesOk_e D n (impl_placesOk_LP0 D n) a0 a1 a2
def impl_placesOk_Q0 (x0:List Int) (x1:Int) (x2:List Int) (x3:Int) (x4:Int) (x5:tSch):St:=stq 35 [(1,AV.val (Ty.sl yI) x0),(2,avI x1),(3,AV.addr 3 []),(9,AV.val (Ty.sl yI) x2),(10,avI x3),(11,avI x4)] [(3,Root.mk yS Mk.no x5 true)] 
def impl_placesOk_Q0_0 (v0_0:List Int) (v0_1:Int) (v0_2:Bool):St:=stq 35 [(1,AV.val (Ty.sl yI) v0_0),(2,avI v0_1),(6,AV.val Ty.bool v0_2)] [] 
def impl_placesOk_Q0_1 (v1_0:List Int) (v1_1:Int):St:=stq 35 [(1,AV.val (Ty.sl yI) v1_0),(2,avI v1_1)] [] 
theorem impl_placesOk_SB0 (D:DX)(n:Nat) (m:Nat) (K:Ex→St→Option (Out ctx 80)) (x0:List Int) (x1:Int) (x2:List Int) (x3:Int) (x4:Int) (x5:tSch) :
  LQ funcTab D n 80 [.r,.l,.r,.l] (m+1) (impl_placesOk_Q0 x0 x1 x2 x3 x4 x5) K=impl_placesOk_b0 D n (fun x0 x1 x2 x3 x4 x5=>LQ funcTab D n 80 [.r,.l,.r,.l] m (impl_placesOk_Q0 x0 x1 x2 x3 x4 x5) K) (fun v0_0 v0_1 v0_2=>K (Ex.ret) (impl_placesOk_Q0_0 v0_0 v0_1 v0_2)) (fun v1_0 v1_1=>K (Ex.exit 0) (impl_placesOk_Q0_1 v1_0 v1_1)) x0 x1 x2 x3 x4 x5:=by kernel_rfl
theorem impl_placesOk_EL0 (D:DX)(n:Nat) (K:Ex→St→Option (Out ctx 80)):∀ (m:Nat) (x0:List Int) (x1:Int) (x2:List Int) (x3:Int) (x4:Int) (x5:tSch),LQ funcTab D n 80 [.r,.l,.r,.l] m (impl_placesOk_Q0 x0 x1 x2 x3 x4 x5) K=impl_placesOk_L0 D n (fun v0_0 v0_1 v0_2=>K (Ex.ret) (impl_placesOk_Q0_0 v0_0 v0_1 v0_2)) (fun v1_0 v1_1=>K (Ex.exit 0) (impl_placesOk_Q0_1 v1_0 v1_1)) m x0 x1 x2 x3 x4 x5
  | 0,x0,x1,x2,x3,x4,x5=>LQ_zero ..
  | m+1,x0,x1,x2,x3,x4,x5=>by
    have ih:(fun x0 x1 x2 x3 x4 x5=>LQ funcTab D n 80 [.r,.l,.r,.l] m (impl_placesOk_Q0 x0 x1 x2 x3 x4 x5) K)=impl_placesOk_L0 D n (fun v0_0 v0_1 v0_2=>K (Ex.ret) (impl_placesOk_Q0_0 v0_0 v0_1 v0_2)) (fun v1_0 v1_1=>K (Ex.exit 0) (impl_placesOk_Q0_1 v1_0 v1_1)) m:=by funext x0 x1 x2 x3 x4 x5;exact impl_placesOk_EL0 D n K m x0 x1 x2 x3 x4 x5
    rw[impl_placesOk_SB0]
    rw[ih];rfl
theorem impl_placesOk_X0_0 (D:DX)(n:Nat) (v0_0:List Int) (v0_1:Int) (v0_2:Bool) :
  (CQ funcTab D n 80 [] [.r,.l,.r,.l] (lastK funcTab 80)) (Ex.ret) (impl_placesOk_Q0_0 v0_0 v0_1 v0_2)=impl_placesOk_x0_0 D n v0_0 v0_1 v0_2:=by kernel_rfl
theorem impl_placesOk_X0_1 (D:DX)(n:Nat) (v1_0:List Int) (v1_1:Int) :
  (CQ funcTab D n 80 [] [.r,.l,.r,.l] (lastK funcTab 80)) (Ex.exit 0) (impl_placesOk_Q0_1 v1_0 v1_1)=impl_placesOk_x0_1 D n v1_0 v1_1:=by kernel_rfl
theorem impl_placesOk_ELP0 (D:DX)(n:Nat) (x0:List Int) (x1:Int) (x2:List Int) (x3:Int) (x4:Int) (x5:tSch) :
  LQ funcTab D n 80 [.r,.l,.r,.l] n (impl_placesOk_Q0 x0 x1 x2 x3 x4 x5) (CQ funcTab D n 80 [] [.r,.l,.r,.l] (lastK funcTab 80))=impl_placesOk_LP0 D n x0 x1 x2 x3 x4 x5:=by
  rw[impl_placesOk_EL0]
  simp only[impl_placesOk_X0_0,impl_placesOk_X0_1]
  rfl
theorem E_impl_placesOk (D:DX)(n:Nat) (a0:tSch) (a1:List Int) (a2:Int):rfC funcTab D n 80 (a0,(a1,(a2,())))=F_impl_placesOk D n a0 a1 a2:=by
  have h:rfC funcTab D n 80 (a0,(a1,(a2,())))=impl_placesOk_e D n (fun x0 x1 x2 x3 x4 x5=>LQ funcTab D n 80 [.r,.l,.r,.l] n (impl_placesOk_Q0 x0 x1 x2 x3 x4 x5) (CQ funcTab D n 80 [] [.r,.l,.r,.l] (lastK funcTab 80))) a0 a1 a2:=by kernel_rfl
  rw[h]
  simp only[impl_placesOk_ELP0]
  rfl

def slices_ContainsFunc_impl_Index_impl_Index_e (D:DX)(n:Nat) (a1:Clo) (a0:tIxs):Option ((Bool×Unit)×Unit):=bindD (C_slices_IndexFunc_impl_Index_impl_Index D a0 a1) fun b↦some ((decide (Prod.fst (Prod.fst b)≥0),()),())
def F_slices_ContainsFunc_impl_Index_impl_Index (D:DX)(n:Nat) (a0:tIxs) (a1:Clo):Option ((Bool×Unit)×Unit):=slices_ContainsFunc_impl_Index_impl_Index_e D n a1 a0
theorem E_slices_ContainsFunc_impl_Index_impl_Index (D:DX)(n:Nat) (a0:tIxs) (a1:Clo):rfC funcTab D n 81 (a0,(a1,()))=F_slices_ContainsFunc_impl_Index_impl_Index D n a0 a1:=by kernel_rfl

def impl_SchemaOk_1_e (D:DX)(n:Nat) (a0:ByteArray×List Int×Bool×Unit) (a1:ByteArray×List Int×Bool×Unit):Option ((Bool×Unit)×Unit):=some ((List.beq (ByteArray.toList (Prod.fst a0)) (ByteArray.toList (Prod.fst a1)),()),())
def F_impl_SchemaOk_1 (D:DX)(n:Nat) (a0:ByteArray×List Int×Bool×Unit) (a1:ByteArray×List Int×Bool×Unit):Option ((Bool×Unit)×Unit):=impl_SchemaOk_1_e D n a0 a1
theorem E_impl_SchemaOk_1 (D:DX)(n:Nat) (a0:ByteArray×List Int×Bool×Unit) (a1:ByteArray×List Int×Bool×Unit):rfC funcTab D n 82 (a0,(a1,()))=F_impl_SchemaOk_1 D n a0 a1:=by kernel_rfl

def slices_ContainsFunc_int_int_e (D:DX)(n:Nat) (a1:Clo) (a0:List Int):Option ((Bool×Unit)×Unit):=bindD (C_slices_IndexFunc_int_int D a0 a1) fun b↦some ((decide (Prod.fst (Prod.fst b)≥0),()),())
def F_slices_ContainsFunc_int_int (D:DX)(n:Nat) (a0:List Int) (a1:Clo):Option ((Bool×Unit)×Unit):=slices_ContainsFunc_int_int_e D n a1 a0
theorem E_slices_ContainsFunc_int_int (D:DX)(n:Nat) (a0:List Int) (a1:Clo):rfC funcTab D n 83 (a0,(a1,()))=F_slices_ContainsFunc_int_int D n a0 a1:=by kernel_rfl

def impl_SchemaOk_2_e (D:DX)(n:Nat) (a0:Int) (a1:tSch):Option ((Bool×Unit)×Unit):=br (decide (0≤a0)&&decide (a0<(↑(List.length (Prod.fst a1)):Int))) (some ((Prod.fst (Prod.snd (Prod.snd (List.getD (Prod.fst a1) (Int.toNat a0) (ByteArray.empty,0,false,())))),()),())) none
def F_impl_SchemaOk_2 (D:DX)(n:Nat) (a0:Int) (a1:tSch):Option ((Bool×Unit)×Unit):=impl_SchemaOk_2_e D n a0 a1
theorem E_impl_SchemaOk_2 (D:DX)(n:Nat) (a0:Int) (a1:tSch):rfC funcTab D n 84 (a0,(a1,()))=F_impl_SchemaOk_2 D n a0 a1:=by kernel_rfl

def laws_eqColS_b0 (D:DX)(n:Nat) (go:tCols→tCols→Int→Option ((Bool×Unit)×Unit)) (K0:Bool→Option ((Bool×Unit)×Unit)) (K1:Option ((Bool×Unit)×Unit)) (x0:tCols) (x1:tCols) (x2:Int):Option ((Bool×Unit)×Unit):=br (decide (x2<(↑(List.length x0):Int))) (br (decide (0≤x2)&&decide (x2<(↑(List.length x0):Int))) (br (decide (0≤x2)&&decide (x2<(↑(List.length x1):Int))) (bindD (C_laws_eqCol D (List.getD x0 (Int.toNat x2) (ByteArray.empty,0,false,())) (List.getD x1 (Int.toNat x2) (ByteArray.empty,0,false,()))) fun b↦br (!Prod.fst (Prod.fst b)) (K0 false) (go x0 x1 (IntKind.wrap IntKind.i64 (x2+1)))) none) none) K1
def laws_eqColS_L0 (D:DX)(n:Nat) (K0:Bool→Option ((Bool×Unit)×Unit)) (K1:Option ((Bool×Unit)×Unit)):Nat→(tCols)→(tCols)→(Int)→Option ((Bool×Unit)×Unit) | 0=>(fun x0 x1 x2=>none) | m+1=>(fun x0 x1 x2=>laws_eqColS_b0 D n (laws_eqColS_L0 D n K0 K1 m) K0 K1 x0 x1 x2)
def laws_eqColS_x0_0 (D:DX)(n:Nat) (v0_0:Bool):Option ((Bool×Unit)×Unit):=some ((v0_0,()),())
def laws_eqColS_x0_1 (D:DX)(n:Nat):Option ((Bool×Unit)×Unit):=some ((true,()),())
def laws_eqColS_LP0 (D:DX)(n:Nat):(tCols)→(tCols)→(Int)→Option ((Bool×Unit)×Unit):=(fun x0 x1 x2=>laws_eqColS_L0 D n (fun v0_0=>laws_eqColS_x0_0 D n v0_0) (laws_eqColS_x0_1 D n) n x0 x1 x2)
def laws_eqColS_e (D:DX)(n:Nat) (lp0:tCols→tCols→Int→Option ((Bool×Unit)×Unit)) (a0:tCols) (a1:tCols):Option ((Bool×Unit)×Unit):=br ((↑(List.length a0):Int) != (↑(List.length a1):Int)) (some ((false,()),())) (lp0 a0 a1 0)
def F_laws_eqColS (D:DX)(n:Nat) (a0:tCols) (a1:tCols):Option ((Bool×Unit)×Unit):=laws_eqColS_e D n (laws_eqColS_LP0 D n) a0 a1
def laws_eqColS_Q0 (x0:tCols) (x1:tCols) (x2:Int):St:=stq 27 [(0,AV.val (Ty.sl yC) x0),(1,AV.val (Ty.sl yC) x1),(5,avI x2)] [] 
def laws_eqColS_Q0_0 (v0_0:Bool):St:=stq 27 [(4,AV.val Ty.bool v0_0)] [] 
def laws_eqColS_Q0_1:St:=stq 27 [] [] 
theorem laws_eqColS_SB0 (D:DX)(n:Nat) (m:Nat) (K:Ex→St→Option (Out ctx 85)) (x0:tCols) (x1:tCols) (x2:Int) :
  LQ funcTab D n 85 [.r,.r,.l,.r,.l] (m+1) (laws_eqColS_Q0 x0 x1 x2) K=laws_eqColS_b0 D n (fun x0 x1 x2=>LQ funcTab D n 85 [.r,.r,.l,.r,.l] m (laws_eqColS_Q0 x0 x1 x2) K) (fun v0_0=>K (Ex.ret) (laws_eqColS_Q0_0 v0_0)) (K (Ex.exit 0) (laws_eqColS_Q0_1)) x0 x1 x2:=by kernel_rfl
theorem laws_eqColS_EL0 (D:DX)(n:Nat) (K:Ex→St→Option (Out ctx 85)):∀ (m:Nat) (x0:tCols) (x1:tCols) (x2:Int),LQ funcTab D n 85 [.r,.r,.l,.r,.l] m (laws_eqColS_Q0 x0 x1 x2) K=laws_eqColS_L0 D n (fun v0_0=>K (Ex.ret) (laws_eqColS_Q0_0 v0_0)) (K (Ex.exit 0) (laws_eqColS_Q0_1)) m x0 x1 x2
  | 0,x0,x1,x2=>LQ_zero ..
  | m+1,x0,x1,x2=>by
    have ih:(fun x0 x1 x2=>LQ funcTab D n 85 [.r,.r,.l,.r,.l] m (laws_eqColS_Q0 x0 x1 x2) K)=laws_eqColS_L0 D n (fun v0_0=>K (Ex.ret) (laws_eqColS_Q0_0 v0_0)) (K (Ex.exit 0) (laws_eqColS_Q0_1)) m:=by funext x0 x1 x2;exact laws_eqColS_EL0 D n K m x0 x1 x2
    rw[laws_eqColS_SB0]
    rw[ih];rfl
theorem laws_eqColS_X0_0 (D:DX)(n:Nat) (v0_0:Bool) :
  (CQ funcTab D n 85 [] [.r,.r,.l,.r,.l] (lastK funcTab 85)) (Ex.ret) (laws_eqColS_Q0_0 v0_0)=laws_eqColS_x0_0 D n v0_0:=by kernel_rfl
theorem laws_eqColS_X0_1 (D:DX)(n:Nat) :
  (CQ funcTab D n 85 [] [.r,.r,.l,.r,.l] (lastK funcTab 85)) (Ex.exit 0) (laws_eqColS_Q0_1)=laws_eqColS_x0_1 D n:=by kernel_rfl
theorem laws_eqColS_ELP0 (D:DX)(n:Nat) (x0:tCols) (x1:tCols) (x2:Int) :
  LQ funcTab D n 85 [.r,.r,.l,.r,.l] n (laws_eqColS_Q0 x0 x1 x2) (CQ funcTab D n 85 [] [.r,.r,.l,.r,.l] (lastK funcTab 85))=laws_eqColS_LP0 D n x0 x1 x2:=by
  rw[laws_eqColS_EL0]
  simp only[laws_eqColS_X0_0,laws_eqColS_X0_1]
  rfl
theorem E_laws_eqColS (D:DX)(n:Nat) (a0:tCols) (a1:tCols):rfC funcTab D n 85 (a0,(a1,()))=F_laws_eqColS D n a0 a1:=by
  have h:rfC funcTab D n 85 (a0,(a1,()))=laws_eqColS_e D n (fun x0 x1 x2=>LQ funcTab D n 85 [.r,.r,.l,.r,.l] n (laws_eqColS_Q0 x0 x1 x2) (CQ funcTab D n 85 [] [.r,.r,.l,.r,.l] (lastK funcTab 85))) a0 a1:=by kernel_rfl
  rw[h]
  simp only[laws_eqColS_ELP0]
  rfl

def laws_eqIntS_b0 (D:DX)(n:Nat) (go:List Int→List Int→Int→Option ((Bool×Unit)×Unit)) (K0:Bool→Option ((Bool×Unit)×Unit)) (K1:Option ((Bool×Unit)×Unit)) (x0:List Int) (x1:List Int) (x2:Int):Option ((Bool×Unit)×Unit):=br (decide (x2<(↑(List.length x0):Int))) (br (decide (0≤x2)&&decide (x2<(↑(List.length x0):Int))) (br (decide (0≤x2)&&decide (x2<(↑(List.length x1):Int))) (br (List.getD x0 (Int.toNat x2) 0 != List.getD x1 (Int.toNat x2) 0) (K0 false) (go x0 x1 (IntKind.wrap IntKind.i64 (x2+1)))) none) none) K1
def laws_eqIntS_L0 (D:DX)(n:Nat) (K0:Bool→Option ((Bool×Unit)×Unit)) (K1:Option ((Bool×Unit)×Unit)):Nat→(List Int)→(List Int)→(Int)→Option ((Bool×Unit)×Unit) | 0=>(fun x0 x1 x2=>none) | m+1=>(fun x0 x1 x2=>laws_eqIntS_b0 D n (laws_eqIntS_L0 D n K0 K1 m) K0 K1 x0 x1 x2)
def laws_eqIntS_x0_0 (D:DX)(n:Nat) (v0_0:Bool):Option ((Bool×Unit)×Unit):=some ((v0_0,()),())
def laws_eqIntS_x0_1 (D:DX)(n:Nat):Option ((Bool×Unit)×Unit):=some ((true,()),())
def laws_eqIntS_LP0 (D:DX)(n:Nat):(List Int)→(List Int)→(Int)→Option ((Bool×Unit)×Unit):=(fun x0 x1 x2=>laws_eqIntS_L0 D n (fun v0_0=>laws_eqIntS_x0_0 D n v0_0) (laws_eqIntS_x0_1 D n) n x0 x1 x2)
def laws_eqIntS_e (D:DX)(n:Nat) (lp0:List Int→List Int→Int→Option ((Bool×Unit)×Unit)) (a0:List Int) (a1:List Int):Option ((Bool×Unit)×Unit):=br ((↑(List.length a0):Int) != (↑(List.length a1):Int)) (some ((false,()),())) (lp0 a0 a1 0)
def F_laws_eqIntS (D:DX)(n:Nat) (a0:List Int) (a1:List Int):Option ((Bool×Unit)×Unit):=laws_eqIntS_e D n (laws_eqIntS_LP0 D n) a0 a1
def laws_eqIntS_Q0 (x0:List Int) (x1:List Int) (x2:Int):St:=stq 26 [(0,AV.val (Ty.sl yI) x0),(1,AV.val (Ty.sl yI) x1),(5,avI x2)] [] 
def laws_eqIntS_Q0_0 (v0_0:Bool):St:=stq 26 [(4,AV.val Ty.bool v0_0)] [] 
def laws_eqIntS_Q0_1:St:=stq 26 [] [] 
theorem laws_eqIntS_SB0 (D:DX)(n:Nat) (m:Nat) (K:Ex→St→Option (Out ctx 86)) (x0:List Int) (x1:List Int) (x2:Int) :
  LQ funcTab D n 86 [.r,.r,.l,.r,.l] (m+1) (laws_eqIntS_Q0 x0 x1 x2) K=laws_eqIntS_b0 D n (fun x0 x1 x2=>LQ funcTab D n 86 [.r,.r,.l,.r,.l] m (laws_eqIntS_Q0 x0 x1 x2) K) (fun v0_0=>K (Ex.ret) (laws_eqIntS_Q0_0 v0_0)) (K (Ex.exit 0) (laws_eqIntS_Q0_1)) x0 x1 x2:=by kernel_rfl
theorem laws_eqIntS_EL0 (D:DX)(n:Nat) (K:Ex→St→Option (Out ctx 86)):∀ (m:Nat) (x0:List Int) (x1:List Int) (x2:Int),LQ funcTab D n 86 [.r,.r,.l,.r,.l] m (laws_eqIntS_Q0 x0 x1 x2) K=laws_eqIntS_L0 D n (fun v0_0=>K (Ex.ret) (laws_eqIntS_Q0_0 v0_0)) (K (Ex.exit 0) (laws_eqIntS_Q0_1)) m x0 x1 x2
  | 0,x0,x1,x2=>LQ_zero ..
  | m+1,x0,x1,x2=>by
    have ih:(fun x0 x1 x2=>LQ funcTab D n 86 [.r,.r,.l,.r,.l] m (laws_eqIntS_Q0 x0 x1 x2) K)=laws_eqIntS_L0 D n (fun v0_0=>K (Ex.ret) (laws_eqIntS_Q0_0 v0_0)) (K (Ex.exit 0) (laws_eqIntS_Q0_1)) m:=by funext x0 x1 x2;exact laws_eqIntS_EL0 D n K m x0 x1 x2
    rw[laws_eqIntS_SB0]
    rw[ih];rfl
theorem laws_eqIntS_X0_0 (D:DX)(n:Nat) (v0_0:Bool) :
  (CQ funcTab D n 86 [] [.r,.r,.l,.r,.l] (lastK funcTab 86)) (Ex.ret) (laws_eqIntS_Q0_0 v0_0)=laws_eqIntS_x0_0 D n v0_0:=by kernel_rfl
theorem laws_eqIntS_X0_1 (D:DX)(n:Nat) :
  (CQ funcTab D n 86 [] [.r,.r,.l,.r,.l] (lastK funcTab 86)) (Ex.exit 0) (laws_eqIntS_Q0_1)=laws_eqIntS_x0_1 D n:=by kernel_rfl
theorem laws_eqIntS_ELP0 (D:DX)(n:Nat) (x0:List Int) (x1:List Int) (x2:Int) :
  LQ funcTab D n 86 [.r,.r,.l,.r,.l] n (laws_eqIntS_Q0 x0 x1 x2) (CQ funcTab D n 86 [] [.r,.r,.l,.r,.l] (lastK funcTab 86))=laws_eqIntS_LP0 D n x0 x1 x2:=by
  rw[laws_eqIntS_EL0]
  simp only[laws_eqIntS_X0_0,laws_eqIntS_X0_1]
  rfl
theorem E_laws_eqIntS (D:DX)(n:Nat) (a0:List Int) (a1:List Int):rfC funcTab D n 86 (a0,(a1,()))=F_laws_eqIntS D n a0 a1:=by
  have h:rfC funcTab D n 86 (a0,(a1,()))=laws_eqIntS_e D n (fun x0 x1 x2=>LQ funcTab D n 86 [.r,.r,.l,.r,.l] n (laws_eqIntS_Q0 x0 x1 x2) (CQ funcTab D n 86 [] [.r,.r,.l,.r,.l] (lastK funcTab 86))) a0 a1:=by kernel_rfl
  rw[h]
  simp only[laws_eqIntS_ELP0]
  rfl

def laws_eqIndexS_b0 (D:DX)(n:Nat) (go:tIxs→tIxs→Int→Option ((Bool×Unit)×Unit)) (K0:Bool→Option ((Bool×Unit)×Unit)) (K1:Option ((Bool×Unit)×Unit)) (x0:tIxs) (x1:tIxs) (x2:Int):Option ((Bool×Unit)×Unit):=br (decide (x2<(↑(List.length x0):Int))) (br (decide (0≤x2)&&decide (x2<(↑(List.length x0):Int))) (br (decide (0≤x2)&&decide (x2<(↑(List.length x1):Int))) (bindD (C_laws_eqIndex D (List.getD x0 (Int.toNat x2) (ByteArray.empty,[],false,())) (List.getD x1 (Int.toNat x2) (ByteArray.empty,[],false,()))) fun b↦br (!Prod.fst (Prod.fst b)) (K0 false) (go x0 x1 (IntKind.wrap IntKind.i64 (x2+1)))) none) none) K1
def laws_eqIndexS_L0 (D:DX)(n:Nat) (K0:Bool→Option ((Bool×Unit)×Unit)) (K1:Option ((Bool×Unit)×Unit)):Nat→(tIxs)→(tIxs)→(Int)→Option ((Bool×Unit)×Unit) | 0=>(fun x0 x1 x2=>none) | m+1=>(fun x0 x1 x2=>laws_eqIndexS_b0 D n (laws_eqIndexS_L0 D n K0 K1 m) K0 K1 x0 x1 x2)
def laws_eqIndexS_x0_0 (D:DX)(n:Nat) (v0_0:Bool):Option ((Bool×Unit)×Unit):=some ((v0_0,()),())
def laws_eqIndexS_x0_1 (D:DX)(n:Nat):Option ((Bool×Unit)×Unit):=some ((true,()),())
def laws_eqIndexS_LP0 (D:DX)(n:Nat):(tIxs)→(tIxs)→(Int)→Option ((Bool×Unit)×Unit):=(fun x0 x1 x2=>laws_eqIndexS_L0 D n (fun v0_0=>laws_eqIndexS_x0_0 D n v0_0) (laws_eqIndexS_x0_1 D n) n x0 x1 x2)
def laws_eqIndexS_e (D:DX)(n:Nat) (lp0:tIxs→tIxs→Int→Option ((Bool×Unit)×Unit)) (a0:tIxs) (a1:tIxs):Option ((Bool×Unit)×Unit):=br ((↑(List.length a0):Int) != (↑(List.length a1):Int)) (some ((false,()),())) (lp0 a0 a1 0)
def F_laws_eqIndexS (D:DX)(n:Nat) (a0:tIxs) (a1:tIxs):Option ((Bool×Unit)×Unit):=laws_eqIndexS_e D n (laws_eqIndexS_LP0 D n) a0 a1
def laws_eqIndexS_Q0 (x0:tIxs) (x1:tIxs) (x2:Int):St:=stq 27 [(0,AV.val (Ty.sl yX) x0),(1,AV.val (Ty.sl yX) x1),(5,avI x2)] [] 
def laws_eqIndexS_Q0_0 (v0_0:Bool):St:=stq 27 [(4,AV.val Ty.bool v0_0)] [] 
def laws_eqIndexS_Q0_1:St:=stq 27 [] [] 
theorem laws_eqIndexS_SB0 (D:DX)(n:Nat) (m:Nat) (K:Ex→St→Option (Out ctx 87)) (x0:tIxs) (x1:tIxs) (x2:Int) :
  LQ funcTab D n 87 [.r,.r,.l,.r,.l] (m+1) (laws_eqIndexS_Q0 x0 x1 x2) K=laws_eqIndexS_b0 D n (fun x0 x1 x2=>LQ funcTab D n 87 [.r,.r,.l,.r,.l] m (laws_eqIndexS_Q0 x0 x1 x2) K) (fun v0_0=>K (Ex.ret) (laws_eqIndexS_Q0_0 v0_0)) (K (Ex.exit 0) (laws_eqIndexS_Q0_1)) x0 x1 x2:=by kernel_rfl
theorem laws_eqIndexS_EL0 (D:DX)(n:Nat) (K:Ex→St→Option (Out ctx 87)):∀ (m:Nat) (x0:tIxs) (x1:tIxs) (x2:Int),LQ funcTab D n 87 [.r,.r,.l,.r,.l] m (laws_eqIndexS_Q0 x0 x1 x2) K=laws_eqIndexS_L0 D n (fun v0_0=>K (Ex.ret) (laws_eqIndexS_Q0_0 v0_0)) (K (Ex.exit 0) (laws_eqIndexS_Q0_1)) m x0 x1 x2
  | 0,x0,x1,x2=>LQ_zero ..
  | m+1,x0,x1,x2=>by
    have ih:(fun x0 x1 x2=>LQ funcTab D n 87 [.r,.r,.l,.r,.l] m (laws_eqIndexS_Q0 x0 x1 x2) K)=laws_eqIndexS_L0 D n (fun v0_0=>K (Ex.ret) (laws_eqIndexS_Q0_0 v0_0)) (K (Ex.exit 0) (laws_eqIndexS_Q0_1)) m:=by funext x0 x1 x2;exact laws_eqIndexS_EL0 D n K m x0 x1 x2
    rw[laws_eqIndexS_SB0]
    rw[ih];rfl
theorem laws_eqIndexS_X0_0 (D:DX)(n:Nat) (v0_0:Bool) :
  (CQ funcTab D n 87 [] [.r,.r,.l,.r,.l] (lastK funcTab 87)) (Ex.ret) (laws_eqIndexS_Q0_0 v0_0)=laws_eqIndexS_x0_0 D n v0_0:=by kernel_rfl
theorem laws_eqIndexS_X0_1 (D:DX)(n:Nat) :
  (CQ funcTab D n 87 [] [.r,.r,.l,.r,.l] (lastK funcTab 87)) (Ex.exit 0) (laws_eqIndexS_Q0_1)=laws_eqIndexS_x0_1 D n:=by kernel_rfl
theorem laws_eqIndexS_ELP0 (D:DX)(n:Nat) (x0:tIxs) (x1:tIxs) (x2:Int) :
  LQ funcTab D n 87 [.r,.r,.l,.r,.l] n (laws_eqIndexS_Q0 x0 x1 x2) (CQ funcTab D n 87 [] [.r,.r,.l,.r,.l] (lastK funcTab 87))=laws_eqIndexS_LP0 D n x0 x1 x2:=by
  rw[laws_eqIndexS_EL0]
  simp only[laws_eqIndexS_X0_0,laws_eqIndexS_X0_1]
  rfl
theorem E_laws_eqIndexS (D:DX)(n:Nat) (a0:tIxs) (a1:tIxs):rfC funcTab D n 87 (a0,(a1,()))=F_laws_eqIndexS D n a0 a1:=by
  have h:rfC funcTab D n 87 (a0,(a1,()))=laws_eqIndexS_e D n (fun x0 x1 x2=>LQ funcTab D n 87 [.r,.r,.l,.r,.l] n (laws_eqIndexS_Q0 x0 x1 x2) (CQ funcTab D n 87 [] [.r,.r,.l,.r,.l] (lastK funcTab 87))) a0 a1:=by kernel_rfl
  rw[h]
  simp only[laws_eqIndexS_ELP0]
  rfl

def impl_ValueOk_e (D:DX)(n:Nat) (a0:Int×Int×ByteArray×Unit):Option ((Bool×Unit)×Unit):=br (decide (Prod.fst a0=0)) (some ((bif decide (Prod.fst (Prod.snd a0)=0) then List.beq (ByteArray.toList (Prod.fst (Prod.snd (Prod.snd a0)))) (ByteArray.toList (ByteArray.mk #[])) else false,()),())) (br (decide (Prod.fst a0=1)) (bindD (C_impl_from D (Prod.fst (Prod.snd a0)) 0 1) fun b↦some ((bif Prod.fst (Prod.fst b) then List.beq (ByteArray.toList (Prod.fst (Prod.snd (Prod.snd a0)))) (ByteArray.toList (ByteArray.mk #[])) else false,()),())) (br (decide (Prod.fst a0=2)) (bindD (C_impl_from D (Prod.fst (Prod.snd a0)) (-1000000000000) 1000000000000) fun b↦some ((bif Prod.fst (Prod.fst b) then List.beq (ByteArray.toList (Prod.fst (Prod.snd (Prod.snd a0)))) (ByteArray.toList (ByteArray.mk #[])) else false,()),())) (br (decide (Prod.fst a0=3)) (some ((bif decide (Prod.fst (Prod.snd a0)=0) then decide ((↑(ByteArray.size (Prod.fst (Prod.snd (Prod.snd a0)))):Int)≤20) else false,()),())) (some ((false,()),())))))
def F_impl_ValueOk (D:DX)(n:Nat) (a0:Int×Int×ByteArray×Unit):Option ((Bool×Unit)×Unit):=impl_ValueOk_e D n a0
theorem E_impl_ValueOk (D:DX)(n:Nat) (a0:Int×Int×ByteArray×Unit):rfC funcTab D n 94 (a0,())=F_impl_ValueOk D n a0:=by kernel_rfl

def spec_ValueOk_e (D:DX)(n:Nat) (a0:Int×Int×ByteArray×Unit):Option ((Bool×Unit)×Unit):=br (decide (Prod.fst a0=0)) (some ((bif decide (Prod.fst (Prod.snd a0)=0) then List.beq (ByteArray.toList (Prod.fst (Prod.snd (Prod.snd a0)))) (ByteArray.toList (ByteArray.mk #[])) else false,()),())) (br (decide (Prod.fst a0=1)) (bindD (C_spec_l1In D (Prod.fst (Prod.snd a0)) 0 1) fun b↦some ((bif Prod.fst (Prod.fst b) then List.beq (ByteArray.toList (Prod.fst (Prod.snd (Prod.snd a0)))) (ByteArray.toList (ByteArray.mk #[])) else false,()),())) (br (decide (Prod.fst a0=2)) (bindD (C_spec_l1In D (Prod.fst (Prod.snd a0)) (-1000000000000) 1000000000000) fun b↦some ((bif Prod.fst (Prod.fst b) then List.beq (ByteArray.toList (Prod.fst (Prod.snd (Prod.snd a0)))) (ByteArray.toList (ByteArray.mk #[])) else false,()),())) (br (decide (Prod.fst a0=3)) (some ((bif decide (Prod.fst (Prod.snd a0)=0) then decide ((↑(ByteArray.size (Prod.fst (Prod.snd (Prod.snd a0)))):Int)≤20) else false,()),())) (some ((false,()),())))))
def F_spec_ValueOk (D:DX)(n:Nat) (a0:Int×Int×ByteArray×Unit):Option ((Bool×Unit)×Unit):=spec_ValueOk_e D n a0
theorem E_spec_ValueOk (D:DX)(n:Nat) (a0:Int×Int×ByteArray×Unit):rfC funcTab D n 95 (a0,())=F_spec_ValueOk D n a0:=by kernel_rfl

def slices_IndexFunc_impl_Col_impl_Col_b0 (D:DX)(n:Nat) (a1:Clo) (go:tCols→Int→Int→Option ((Int×Unit)×Unit)) (K0:Int→Option ((Int×Unit)×Unit)) (K1:Option ((Int×Unit)×Unit)) (x0:tCols) (x1:Int) (x2:Int):Option ((Int×Unit)×Unit):=br (decide (x2<x1)) (br (decide (0≤x2)&&decide (x2<(↑(List.length x0):Int))) (bindD (applyClo ctx D a1 [CapV.val (Ty.pair Ty.str (Ty.pair (Ty.int IntKind.i64) (Ty.pair Ty.bool Ty.unit))) (List.getD x0 (Int.toNat x2) (ByteArray.empty,0,false,()))] Ty.bool) fun b↦br b (K0 x2) (go x0 x1 (IntKind.wrap IntKind.i64 (x2+1)))) none) K1
def slices_IndexFunc_impl_Col_impl_Col_L0 (D:DX)(n:Nat) (a1:Clo) (K0:Int→Option ((Int×Unit)×Unit)) (K1:Option ((Int×Unit)×Unit)):Nat→(tCols)→(Int)→(Int)→Option ((Int×Unit)×Unit) | 0=>(fun x0 x1 x2=>none) | m+1=>(fun x0 x1 x2=>slices_IndexFunc_impl_Col_impl_Col_b0 D n a1 (slices_IndexFunc_impl_Col_impl_Col_L0 D n a1 K0 K1 m) K0 K1 x0 x1 x2)
def slices_IndexFunc_impl_Col_impl_Col_x0_0 (D:DX)(n:Nat) (a1:Clo) (v0_0:Int):Option ((Int×Unit)×Unit):=some ((v0_0,()),())
def slices_IndexFunc_impl_Col_impl_Col_x0_1 (D:DX)(n:Nat) (a1:Clo):Option ((Int×Unit)×Unit):=some ((-1,()),())
def slices_IndexFunc_impl_Col_impl_Col_LP0 (D:DX)(n:Nat) (a1:Clo):(tCols)→(Int)→(Int)→Option ((Int×Unit)×Unit):=(fun x0 x1 x2=>slices_IndexFunc_impl_Col_impl_Col_L0 D n a1 (fun v0_0=>slices_IndexFunc_impl_Col_impl_Col_x0_0 D n a1 v0_0) (slices_IndexFunc_impl_Col_impl_Col_x0_1 D n a1) n x0 x1 x2)
def slices_IndexFunc_impl_Col_impl_Col_e (D:DX)(n:Nat) (a1:Clo) (lp0:tCols→Int→Int→Option ((Int×Unit)×Unit)) (a0:tCols):Option ((Int×Unit)×Unit):=lp0 a0 (↑(List.length a0):Int) 0
def F_slices_IndexFunc_impl_Col_impl_Col (D:DX)(n:Nat) (a0:tCols) (a1:Clo):Option ((Int×Unit)×Unit):=slices_IndexFunc_impl_Col_impl_Col_e D n a1 (slices_IndexFunc_impl_Col_impl_Col_LP0 D n a1) a0
def slices_IndexFunc_impl_Col_impl_Col_Q0 (a1:Clo) (x0:tCols) (x1:Int) (x2:Int):St:=stq 19 [(0,AV.val (Ty.sl yC) x0),(1,AV.cloV a1),(7,avI x1),(8,avI x2)] [] 
def slices_IndexFunc_impl_Col_impl_Col_Q0_0 (a1:Clo) (v0_0:Int):St:=stq 19 [(4,avI v0_0)] [] 
def slices_IndexFunc_impl_Col_impl_Col_Q0_1 (a1:Clo):St:=stq 19 [] [] 
theorem slices_IndexFunc_impl_Col_impl_Col_SB0 (D:DX)(n:Nat) (a1:Clo) (m:Nat) (K:Ex→St→Option (Out ctx 96)) (x0:tCols) (x1:Int) (x2:Int) :
  LQ funcTab D n 96 [.r,.l,.r,.l] (m+1) (slices_IndexFunc_impl_Col_impl_Col_Q0 a1 x0 x1 x2) K=slices_IndexFunc_impl_Col_impl_Col_b0 D n a1 (fun x0 x1 x2=>LQ funcTab D n 96 [.r,.l,.r,.l] m (slices_IndexFunc_impl_Col_impl_Col_Q0 a1 x0 x1 x2) K) (fun v0_0=>K (Ex.ret) (slices_IndexFunc_impl_Col_impl_Col_Q0_0 a1 v0_0)) (K (Ex.exit 0) (slices_IndexFunc_impl_Col_impl_Col_Q0_1 a1)) x0 x1 x2:=by kernel_rfl
theorem slices_IndexFunc_impl_Col_impl_Col_EL0 (D:DX)(n:Nat) (a1:Clo) (K:Ex→St→Option (Out ctx 96)):∀ (m:Nat) (x0:tCols) (x1:Int) (x2:Int),LQ funcTab D n 96 [.r,.l,.r,.l] m (slices_IndexFunc_impl_Col_impl_Col_Q0 a1 x0 x1 x2) K=slices_IndexFunc_impl_Col_impl_Col_L0 D n a1 (fun v0_0=>K (Ex.ret) (slices_IndexFunc_impl_Col_impl_Col_Q0_0 a1 v0_0)) (K (Ex.exit 0) (slices_IndexFunc_impl_Col_impl_Col_Q0_1 a1)) m x0 x1 x2
  | 0,x0,x1,x2=>LQ_zero ..
  | m+1,x0,x1,x2=>by
    have ih:(fun x0 x1 x2=>LQ funcTab D n 96 [.r,.l,.r,.l] m (slices_IndexFunc_impl_Col_impl_Col_Q0 a1 x0 x1 x2) K)=slices_IndexFunc_impl_Col_impl_Col_L0 D n a1 (fun v0_0=>K (Ex.ret) (slices_IndexFunc_impl_Col_impl_Col_Q0_0 a1 v0_0)) (K (Ex.exit 0) (slices_IndexFunc_impl_Col_impl_Col_Q0_1 a1)) m:=by funext x0 x1 x2;exact slices_IndexFunc_impl_Col_impl_Col_EL0 D n a1 K m x0 x1 x2
    rw[slices_IndexFunc_impl_Col_impl_Col_SB0]
    rw[ih];rfl
theorem slices_IndexFunc_impl_Col_impl_Col_X0_0 (D:DX)(n:Nat) (a1:Clo) (v0_0:Int) :
  (CQ funcTab D n 96 [] [.r,.l,.r,.l] (lastK funcTab 96)) (Ex.ret) (slices_IndexFunc_impl_Col_impl_Col_Q0_0 a1 v0_0)=slices_IndexFunc_impl_Col_impl_Col_x0_0 D n a1 v0_0:=by kernel_rfl
theorem slices_IndexFunc_impl_Col_impl_Col_X0_1 (D:DX)(n:Nat) (a1:Clo) :
  (CQ funcTab D n 96 [] [.r,.l,.r,.l] (lastK funcTab 96)) (Ex.exit 0) (slices_IndexFunc_impl_Col_impl_Col_Q0_1 a1)=slices_IndexFunc_impl_Col_impl_Col_x0_1 D n a1:=by kernel_rfl
theorem slices_IndexFunc_impl_Col_impl_Col_ELP0 (D:DX)(n:Nat) (a1:Clo) (x0:tCols) (x1:Int) (x2:Int) :
  LQ funcTab D n 96 [.r,.l,.r,.l] n (slices_IndexFunc_impl_Col_impl_Col_Q0 a1 x0 x1 x2) (CQ funcTab D n 96 [] [.r,.l,.r,.l] (lastK funcTab 96))=slices_IndexFunc_impl_Col_impl_Col_LP0 D n a1 x0 x1 x2:=by
  rw[slices_IndexFunc_impl_Col_impl_Col_EL0]
  simp only[slices_IndexFunc_impl_Col_impl_Col_X0_0,slices_IndexFunc_impl_Col_impl_Col_X0_1]
  rfl
theorem E_slices_IndexFunc_impl_Col_impl_Col (D:DX)(n:Nat) (a0:tCols) (a1:Clo):rfC funcTab D n 96 (a0,(a1,()))=F_slices_IndexFunc_impl_Col_impl_Col D n a0 a1:=by
  have h:rfC funcTab D n 96 (a0,(a1,()))=slices_IndexFunc_impl_Col_impl_Col_e D n a1 (fun x0 x1 x2=>LQ funcTab D n 96 [.r,.l,.r,.l] n (slices_IndexFunc_impl_Col_impl_Col_Q0 a1 x0 x1 x2) (CQ funcTab D n 96 [] [.r,.l,.r,.l] (lastK funcTab 96))) a0:=by kernel_rfl
  rw[h]
  simp only[slices_IndexFunc_impl_Col_impl_Col_ELP0]
  rfl

def impl_ColAt_1_e (D:DX)(n:Nat) (a0:ByteArray×Int×Bool×Unit) (a1:ByteArray):Option ((Bool×Unit)×Unit):=some ((List.beq (ByteArray.toList (Prod.fst a0)) (ByteArray.toList a1),()),())
def F_impl_ColAt_1 (D:DX)(n:Nat) (a0:ByteArray×Int×Bool×Unit) (a1:ByteArray):Option ((Bool×Unit)×Unit):=impl_ColAt_1_e D n a0 a1
theorem E_impl_ColAt_1 (D:DX)(n:Nat) (a0:ByteArray×Int×Bool×Unit) (a1:ByteArray):rfC funcTab D n 97 (a0,(a1,()))=F_impl_ColAt_1 D n a0 a1:=by kernel_rfl

def spec_Project_b0 (D:DX)(n:Nat) (go:tVals→List Int→Int→tVals→Option ((tVals×Unit)×Unit)) (K0:tVals→Option ((tVals×Unit)×Unit)) (x0:tVals) (x1:List Int) (x2:Int) (x3:tVals):Option ((tVals×Unit)×Unit):=br (decide (x2<(↑(List.length x1):Int))) (br (decide (0≤x2)&&decide (x2<(↑(List.length x1):Int))) (bindD (C_spec_l1In D (List.getD x1 (Int.toNat x2) 0) 0 (IntKind.wrap IntKind.i64 ((↑(List.length x0):Int) - 1))) fun b↦br (Prod.fst (Prod.fst b)) (br (decide (0≤x2)&&decide (x2<(↑(List.length x1):Int))) (br (decide (0≤List.getD x1 (Int.toNat x2) 0)&&decide (List.getD x1 (Int.toNat x2) 0<(↑(List.length x0):Int))) (br (decide (List.length x3+1≤bound)) (go x0 x1 (IntKind.wrap IntKind.i64 (x2+1)) (x3++[List.getD x0 (Int.toNat (List.getD x1 (Int.toNat x2) 0)) (0,0,ByteArray.empty,())])) none) none) none) (go x0 x1 (IntKind.wrap IntKind.i64 (x2+1)) x3)) none) (K0 x3)
def spec_Project_L0 (D:DX)(n:Nat) (K0:tVals→Option ((tVals×Unit)×Unit)):Nat→(tVals)→(List Int)→(Int)→(tVals)→Option ((tVals×Unit)×Unit) | 0=>(fun x0 x1 x2 x3=>none) | m+1=>(fun x0 x1 x2 x3=>spec_Project_b0 D n (spec_Project_L0 D n K0 m) K0 x0 x1 x2 x3)
def spec_Project_x0_0 (D:DX)(n:Nat) (v0_0:tVals):Option ((tVals×Unit)×Unit):=some ((v0_0,()),())
def spec_Project_LP0 (D:DX)(n:Nat):(tVals)→(List Int)→(Int)→(tVals)→Option ((tVals×Unit)×Unit):=(fun x0 x1 x2 x3=>spec_Project_L0 D n (fun v0_0=>spec_Project_x0_0 D n v0_0) n x0 x1 x2 x3)
def spec_Project_e (D:DX)(n:Nat) (lp0:tVals→List Int→Int→tVals→Option ((tVals×Unit)×Unit)) (a0:tVals) (a1:List Int):Option ((tVals×Unit)×Unit):=lp0 a0 a1 0 []
def F_spec_Project (D:DX)(n:Nat) (a0:tVals) (a1:List Int):Option ((tVals×Unit)×Unit):=spec_Project_e D n (spec_Project_LP0 D n) a0 a1
def spec_Project_Q0 (x0:tVals) (x1:List Int) (x2:Int) (x3:tVals):St:=stq 33 [(0,AV.val (Ty.sl yV) x0),(1,AV.val (Ty.sl yI) x1),(5,AV.brw 5 [] 0),(6,avI x2)] [(5,Root.mk (Ty.sl yV) (Mk.own 0 (Mk.pr Mk.no (Mk.pr Mk.no (Mk.pr Mk.no Mk.no)))) x3 false)] 
def spec_Project_Q0_0 (v0_0:tVals):St:=stq 33 [(5,AV.brw 5 [] 0)] [(5,Root.mk (Ty.sl yV) (Mk.own 0 (Mk.pr Mk.no (Mk.pr Mk.no (Mk.pr Mk.no Mk.no)))) v0_0 false)] 
theorem spec_Project_SB0 (D:DX)(n:Nat) (m:Nat) (K:Ex→St→Option (Out ctx 98)) (x0:tVals) (x1:List Int) (x2:Int) (x3:tVals) :
  LQ funcTab D n 98 [.r,.r,.l,.r,.l] (m+1) (spec_Project_Q0 x0 x1 x2 x3) K=spec_Project_b0 D n (fun x0 x1 x2 x3=>LQ funcTab D n 98 [.r,.r,.l,.r,.l] m (spec_Project_Q0 x0 x1 x2 x3) K) (fun v0_0=>K (Ex.exit 0) (spec_Project_Q0_0 v0_0)) x0 x1 x2 x3:=by kernel_rfl
theorem spec_Project_EL0 (D:DX)(n:Nat) (K:Ex→St→Option (Out ctx 98)):∀ (m:Nat) (x0:tVals) (x1:List Int) (x2:Int) (x3:tVals),LQ funcTab D n 98 [.r,.r,.l,.r,.l] m (spec_Project_Q0 x0 x1 x2 x3) K=spec_Project_L0 D n (fun v0_0=>K (Ex.exit 0) (spec_Project_Q0_0 v0_0)) m x0 x1 x2 x3
  | 0,x0,x1,x2,x3=>LQ_zero ..
  | m+1,x0,x1,x2,x3=>by
    have ih:(fun x0 x1 x2 x3=>LQ funcTab D n 98 [.r,.r,.l,.r,.l] m (spec_Project_Q0 x0 x1 x2 x3) K)=spec_Project_L0 D n (fun v0_0=>K (Ex.exit 0) (spec_Project_Q0_0 v0_0)) m:=by funext x0 x1 x2 x3;exact spec_Project_EL0 D n K m x0 x1 x2 x3
    rw[spec_Project_SB0]
    rw[ih];rfl
theorem spec_Project_X0_0 (D:DX)(n:Nat) (v0_0:tVals) :
  (CQ funcTab D n 98 [] [.r,.r,.l,.r,.l] (lastK funcTab 98)) (Ex.exit 0) (spec_Project_Q0_0 v0_0)=spec_Project_x0_0 D n v0_0:=by kernel_rfl
theorem spec_Project_ELP0 (D:DX)(n:Nat) (x0:tVals) (x1:List Int) (x2:Int) (x3:tVals) :
  LQ funcTab D n 98 [.r,.r,.l,.r,.l] n (spec_Project_Q0 x0 x1 x2 x3) (CQ funcTab D n 98 [] [.r,.r,.l,.r,.l] (lastK funcTab 98))=spec_Project_LP0 D n x0 x1 x2 x3:=by
  rw[spec_Project_EL0]
  simp only[spec_Project_X0_0]
  rfl
theorem E_spec_Project (D:DX)(n:Nat) (a0:tVals) (a1:List Int):rfC funcTab D n 98 (a0,(a1,()))=F_spec_Project D n a0 a1:=by
  have h:rfC funcTab D n 98 (a0,(a1,()))=spec_Project_e D n (fun x0 x1 x2 x3=>LQ funcTab D n 98 [.r,.r,.l,.r,.l] n (spec_Project_Q0 x0 x1 x2 x3) (CQ funcTab D n 98 [] [.r,.r,.l,.r,.l] (lastK funcTab 98))) a0 a1:=by kernel_rfl
  rw[h]
  simp only[spec_Project_ELP0]
  rfl

def slices_ContainsFunc_impl_Value_impl_Value_e (D:DX)(n:Nat) (a1:Clo) (a0:tVals):Option ((Bool×Unit)×Unit):=bindD (C_slices_IndexFunc_impl_Value_impl_Valuex D a0 a1) fun b↦some ((decide (Prod.fst (Prod.fst b)≥0),()),())
def F_slices_ContainsFunc_impl_Value_impl_Value (D:DX)(n:Nat) (a0:tVals) (a1:Clo):Option ((Bool×Unit)×Unit):=slices_ContainsFunc_impl_Value_impl_Value_e D n a1 a0
theorem E_slices_ContainsFunc_impl_Value_impl_Value (D:DX)(n:Nat) (a0:tVals) (a1:Clo):rfC funcTab D n 99 (a0,(a1,()))=F_slices_ContainsFunc_impl_Value_impl_Value D n a0 a1:=by kernel_rfl

def impl_TupleOk_1_e (D:DX)(n:Nat) (a0:Int×Int×ByteArray×Unit):Option ((Bool×Unit)×Unit):=bindD (C_impl_ValueOk D a0) fun b↦some ((!Prod.fst (Prod.fst b),()),())
def F_impl_TupleOk_1 (D:DX)(n:Nat) (a0:Int×Int×ByteArray×Unit):Option ((Bool×Unit)×Unit):=impl_TupleOk_1_e D n a0
theorem E_impl_TupleOk_1 (D:DX)(n:Nat) (a0:Int×Int×ByteArray×Unit):rfC funcTab D n 100 (a0,())=F_impl_TupleOk_1 D n a0:=by kernel_rfl

def laws_szValue_e (D:DX)(n:Nat) (a0:Int×Int×ByteArray×Unit) (a1:Int):Option ((Int×Unit)×Unit):=br (decide (IntKind.wrap IntKind.i64 (a1 - (↑(ByteArray.size (Prod.fst (Prod.snd (Prod.snd a0)))):Int))<0)) (some ((-1,()),())) (some ((IntKind.wrap IntKind.i64 (a1 - (↑(ByteArray.size (Prod.fst (Prod.snd (Prod.snd a0)))):Int)),()),()))
def F_laws_szValue (D:DX)(n:Nat) (a0:Int×Int×ByteArray×Unit) (a1:Int):Option ((Int×Unit)×Unit):=laws_szValue_e D n a0 a1
theorem E_laws_szValue (D:DX)(n:Nat) (a0:Int×Int×ByteArray×Unit) (a1:Int):rfC funcTab D n 101 (a0,(a1,()))=F_laws_szValue D n a0 a1:=by kernel_rfl

def laws_toValue_e (D:DX)(n:Nat) (a0:Int×Int×ByteArray×Unit):Option ((tVal×Unit)×Unit):=some (((Prod.fst a0,Prod.fst (Prod.snd a0),Prod.fst (Prod.snd (Prod.snd a0)),()),()),())
def F_laws_toValue (D:DX)(n:Nat) (a0:Int×Int×ByteArray×Unit):Option ((tVal×Unit)×Unit):=laws_toValue_e D n a0
theorem E_laws_toValue (D:DX)(n:Nat) (a0:Int×Int×ByteArray×Unit):rfC funcTab D n 102 (a0,())=F_laws_toValue D n a0:=by kernel_rfl

def laws_eqValue_e (D:DX)(n:Nat) (a0:Int×Int×ByteArray×Unit) (a1:Int×Int×ByteArray×Unit):Option ((Bool×Unit)×Unit):=br (Prod.fst a0 != Prod.fst a1) (some ((false,()),())) (br (Prod.fst (Prod.snd a0) != Prod.fst (Prod.snd a1)) (some ((false,()),())) (br (!List.beq (ByteArray.toList (Prod.fst (Prod.snd (Prod.snd a0)))) (ByteArray.toList (Prod.fst (Prod.snd (Prod.snd a1))))) (some ((false,()),())) (some ((true,()),()))))
def F_laws_eqValue (D:DX)(n:Nat) (a0:Int×Int×ByteArray×Unit) (a1:Int×Int×ByteArray×Unit):Option ((Bool×Unit)×Unit):=laws_eqValue_e D n a0 a1
theorem E_laws_eqValue (D:DX)(n:Nat) (a0:Int×Int×ByteArray×Unit) (a1:Int×Int×ByteArray×Unit):rfC funcTab D n 103 (a0,(a1,()))=F_laws_eqValue D n a0 a1:=by kernel_rfl

def laws_markColS_b0 (D:DX)(n:Nat) (go:Int→Int→tCols→Option ((Int×Unit)×tCols×Unit)) (K0:Int→tCols→Option ((Int×Unit)×tCols×Unit)) (x0:Int) (x1:Int) (x2:tCols):Option ((Int×Unit)×tCols×Unit):=br (decide (x1<(↑(List.length x2):Int))) (bindD (C_laws_markText D x0) fun b↦br (decide (0≤x1)&&decide (x1<(↑(List.length x2):Int))) (br (decide (0≤x1)&&decide (x1<(↑(List.length (List.set x2 (Int.toNat x1) (Prod.fst (Prod.fst b),Prod.snd (List.getD x2 (Int.toNat x1) (ByteArray.empty,0,false,()))))):Int))) (br (decide (0≤x1)&&decide (x1<(↑(List.length (List.set (List.set x2 (Int.toNat x1) (Prod.fst (Prod.fst b),Prod.snd (List.getD x2 (Int.toNat x1) (ByteArray.empty,0,false,())))) (Int.toNat x1) (Prod.fst (List.getD (List.set x2 (Int.toNat x1) (Prod.fst (Prod.fst b),Prod.snd (List.getD x2 (Int.toNat x1) (ByteArray.empty,0,false,())))) (Int.toNat x1) (ByteArray.empty,0,false,())),IntKind.wrap IntKind.i64 (x0+1),Prod.snd (Prod.snd (List.getD (List.set x2 (Int.toNat x1) (Prod.fst (Prod.fst b),Prod.snd (List.getD x2 (Int.toNat x1) (ByteArray.empty,0,false,())))) (Int.toNat x1) (ByteArray.empty,0,false,())))))):Int))) (go (IntKind.wrap IntKind.i64 (IntKind.wrap IntKind.i64 (IntKind.wrap IntKind.i64 (x0+1)+1)+1)) (IntKind.wrap IntKind.i64 (x1+1)) (List.set (List.set (List.set x2 (Int.toNat x1) (Prod.fst (Prod.fst b),Prod.snd (List.getD x2 (Int.toNat x1) (ByteArray.empty,0,false,())))) (Int.toNat x1) (Prod.fst (List.getD (List.set x2 (Int.toNat x1) (Prod.fst (Prod.fst b),Prod.snd (List.getD x2 (Int.toNat x1) (ByteArray.empty,0,false,())))) (Int.toNat x1) (ByteArray.empty,0,false,())),IntKind.wrap IntKind.i64 (x0+1),Prod.snd (Prod.snd (List.getD (List.set x2 (Int.toNat x1) (Prod.fst (Prod.fst b),Prod.snd (List.getD x2 (Int.toNat x1) (ByteArray.empty,0,false,())))) (Int.toNat x1) (ByteArray.empty,0,false,()))))) (Int.toNat x1) (Prod.fst (List.getD (List.set (List.set x2 (Int.toNat x1) (Prod.fst (Prod.fst b),Prod.snd (List.getD x2 (Int.toNat x1) (ByteArray.empty,0,false,())))) (Int.toNat x1) (Prod.fst (List.getD (List.set x2 (Int.toNat x1) (Prod.fst (Prod.fst b),Prod.snd (List.getD x2 (Int.toNat x1) (ByteArray.empty,0,false,())))) (Int.toNat x1) (ByteArray.empty,0,false,())),IntKind.wrap IntKind.i64 (x0+1),Prod.snd (Prod.snd (List.getD (List.set x2 (Int.toNat x1) (Prod.fst (Prod.fst b),Prod.snd (List.getD x2 (Int.toNat x1) (ByteArray.empty,0,false,())))) (Int.toNat x1) (ByteArray.empty,0,false,()))))) (Int.toNat x1) (ByteArray.empty,0,false,())),Prod.fst (Prod.snd (List.getD (List.set (List.set x2 (Int.toNat x1) (Prod.fst (Prod.fst b),Prod.snd (List.getD x2 (Int.toNat x1) (ByteArray.empty,0,false,())))) (Int.toNat x1) (Prod.fst (List.getD (List.set x2 (Int.toNat x1) (Prod.fst (Prod.fst b),Prod.snd (List.getD x2 (Int.toNat x1) (ByteArray.empty,0,false,())))) (Int.toNat x1) (ByteArray.empty,0,false,())),IntKind.wrap IntKind.i64 (x0+1),Prod.snd (Prod.snd (List.getD (List.set x2 (Int.toNat x1) (Prod.fst (Prod.fst b),Prod.snd (List.getD x2 (Int.toNat x1) (ByteArray.empty,0,false,())))) (Int.toNat x1) (ByteArray.empty,0,false,()))))) (Int.toNat x1) (ByteArray.empty,0,false,()))),decide (Int.tmod (IntKind.wrap IntKind.i64 (IntKind.wrap IntKind.i64 (x0+1)+1)) 3=0),Prod.snd (Prod.snd (Prod.snd (List.getD (List.set (List.set x2 (Int.toNat x1) (Prod.fst (Prod.fst b),Prod.snd (List.getD x2 (Int.toNat x1) (ByteArray.empty,0,false,())))) (Int.toNat x1) (Prod.fst (List.getD (List.set x2 (Int.toNat x1) (Prod.fst (Prod.fst b),Prod.snd (List.getD x2 (Int.toNat x1) (ByteArray.empty,0,false,())))) (Int.toNat x1) (ByteArray.empty,0,false,())),IntKind.wrap IntKind.i64 (x0+1),Prod.snd (Prod.snd (List.getD (List.set x2 (Int.toNat x1) (Prod.fst (Prod.fst b),Prod.snd (List.getD x2 (Int.toNat x1) (ByteArray.empty,0,false,())))) (Int.toNat x1) (ByteArray.empty,0,false,()))))) (Int.toNat x1) (ByteArray.empty,0,false,()))))))) none) none) none) (K0 x0 x2)
def laws_markColS_L0 (D:DX)(n:Nat) (K0:Int→tCols→Option ((Int×Unit)×tCols×Unit)):Nat→(Int)→(Int)→(tCols)→Option ((Int×Unit)×tCols×Unit) | 0=>(fun x0 x1 x2=>none) | m+1=>(fun x0 x1 x2=>laws_markColS_b0 D n (laws_markColS_L0 D n K0 m) K0 x0 x1 x2)
def laws_markColS_x0_0 (D:DX)(n:Nat) (v0_0:Int) (v0_1:tCols):Option ((Int×Unit)×tCols×Unit):=some ((v0_0,()),v0_1,())
def laws_markColS_LP0 (D:DX)(n:Nat):(Int)→(Int)→(tCols)→Option ((Int×Unit)×tCols×Unit):=(fun x0 x1 x2=>laws_markColS_L0 D n (fun v0_0 v0_1=>laws_markColS_x0_0 D n v0_0 v0_1) n x0 x1 x2)
def laws_markColS_e (D:DX)(n:Nat) (lp0:Int→Int→tCols→Option ((Int×Unit)×tCols×Unit)) (a0:tCols) (a1:Int):Option ((Int×Unit)×tCols×Unit):=lp0 a1 0 a0
def F_laws_markColS (D:DX)(n:Nat) (a0:tCols) (a1:Int):Option ((Int×Unit)×tCols×Unit):=laws_markColS_e D n (laws_markColS_LP0 D n) a0 a1
def laws_markColS_Q0 (x0:Int) (x1:Int) (x2:tCols):St:=stq 37 [(0,AV.brw 0 [] 1048576),(1,avI x0),(5,avI x1)] [(0,Root.mk (Ty.sl yC) (Mk.own 1048576 (Mk.pr Mk.no (Mk.pr Mk.no (Mk.pr Mk.no Mk.no)))) x2 false)] 
def laws_markColS_Q0_0 (v0_0:Int) (v0_1:tCols):St:=stq 37 [(0,AV.brw 0 [] 1048576),(1,avI v0_0)] [(0,Root.mk (Ty.sl yC) (Mk.own 1048576 (Mk.pr Mk.no (Mk.pr Mk.no (Mk.pr Mk.no Mk.no)))) v0_1 false)] 
theorem laws_markColS_SB0 (D:DX)(n:Nat) (m:Nat) (K:Ex→St→Option (Out ctx 104)) (x0:Int) (x1:Int) (x2:tCols) :
  LQ funcTab D n 104 [.r,.l,.r,.l] (m+1) (laws_markColS_Q0 x0 x1 x2) K=laws_markColS_b0 D n (fun x0 x1 x2=>LQ funcTab D n 104 [.r,.l,.r,.l] m (laws_markColS_Q0 x0 x1 x2) K) (fun v0_0 v0_1=>K (Ex.exit 0) (laws_markColS_Q0_0 v0_0 v0_1)) x0 x1 x2:=by kernel_rfl
theorem laws_markColS_EL0 (D:DX)(n:Nat) (K:Ex→St→Option (Out ctx 104)):∀ (m:Nat) (x0:Int) (x1:Int) (x2:tCols),LQ funcTab D n 104 [.r,.l,.r,.l] m (laws_markColS_Q0 x0 x1 x2) K=laws_markColS_L0 D n (fun v0_0 v0_1=>K (Ex.exit 0) (laws_markColS_Q0_0 v0_0 v0_1)) m x0 x1 x2
  | 0,x0,x1,x2=>LQ_zero ..
  | m+1,x0,x1,x2=>by
    have ih:(fun x0 x1 x2=>LQ funcTab D n 104 [.r,.l,.r,.l] m (laws_markColS_Q0 x0 x1 x2) K)=laws_markColS_L0 D n (fun v0_0 v0_1=>K (Ex.exit 0) (laws_markColS_Q0_0 v0_0 v0_1)) m:=by funext x0 x1 x2;exact laws_markColS_EL0 D n K m x0 x1 x2
    rw[laws_markColS_SB0]
    rw[ih];rfl
theorem laws_markColS_X0_0 (D:DX)(n:Nat) (v0_0:Int) (v0_1:tCols) :
  (CQ funcTab D n 104 [] [.r,.l,.r,.l] (lastK funcTab 104)) (Ex.exit 0) (laws_markColS_Q0_0 v0_0 v0_1)=laws_markColS_x0_0 D n v0_0 v0_1:=by kernel_rfl
theorem laws_markColS_ELP0 (D:DX)(n:Nat) (x0:Int) (x1:Int) (x2:tCols) :
  LQ funcTab D n 104 [.r,.l,.r,.l] n (laws_markColS_Q0 x0 x1 x2) (CQ funcTab D n 104 [] [.r,.l,.r,.l] (lastK funcTab 104))=laws_markColS_LP0 D n x0 x1 x2:=by
  rw[laws_markColS_EL0]
  simp only[laws_markColS_X0_0]
  rfl
theorem E_laws_markColS (D:DX)(n:Nat) (a0:tCols) (a1:Int):rfC funcTab D n 104 (a0,(a1,()))=F_laws_markColS D n a0 a1:=by
  have h:rfC funcTab D n 104 (a0,(a1,()))=laws_markColS_e D n (fun x0 x1 x2=>LQ funcTab D n 104 [.r,.l,.r,.l] n (laws_markColS_Q0 x0 x1 x2) (CQ funcTab D n 104 [] [.r,.l,.r,.l] (lastK funcTab 104))) a0 a1:=by kernel_rfl
  rw[h]
  simp only[laws_markColS_ELP0]
  rfl

def laws_markIntS_b0 (D:DX)(n:Nat) (go:Int→Int→List Int→Option ((Int×Unit)×List Int×Unit)) (K0:Int→List Int→Option ((Int×Unit)×List Int×Unit)) (x0:Int) (x1:Int) (x2:List Int):Option ((Int×Unit)×List Int×Unit):=br (decide (x1<(↑(List.length x2):Int))) (br (decide (0≤x1)&&decide (x1<(↑(List.length x2):Int))) (go (IntKind.wrap IntKind.i64 (x0+1)) (IntKind.wrap IntKind.i64 (x1+1)) (List.set x2 (Int.toNat x1) x0)) none) (K0 x0 x2)
def laws_markIntS_L0 (D:DX)(n:Nat) (K0:Int→List Int→Option ((Int×Unit)×List Int×Unit)):Nat→(Int)→(Int)→(List Int)→Option ((Int×Unit)×List Int×Unit) | 0=>(fun x0 x1 x2=>none) | m+1=>(fun x0 x1 x2=>laws_markIntS_b0 D n (laws_markIntS_L0 D n K0 m) K0 x0 x1 x2)
def laws_markIntS_x0_0 (D:DX)(n:Nat) (v0_0:Int) (v0_1:List Int):Option ((Int×Unit)×List Int×Unit):=some ((v0_0,()),v0_1,())
def laws_markIntS_LP0 (D:DX)(n:Nat):(Int)→(Int)→(List Int)→Option ((Int×Unit)×List Int×Unit):=(fun x0 x1 x2=>laws_markIntS_L0 D n (fun v0_0 v0_1=>laws_markIntS_x0_0 D n v0_0 v0_1) n x0 x1 x2)
def laws_markIntS_e (D:DX)(n:Nat) (lp0:Int→Int→List Int→Option ((Int×Unit)×List Int×Unit)) (a0:List Int) (a1:Int):Option ((Int×Unit)×List Int×Unit):=lp0 a1 0 a0
def F_laws_markIntS (D:DX)(n:Nat) (a0:List Int) (a1:Int):Option ((Int×Unit)×List Int×Unit):=laws_markIntS_e D n (laws_markIntS_LP0 D n) a0 a1
def laws_markIntS_Q0 (x0:Int) (x1:Int) (x2:List Int):St:=stq 19 [(0,AV.brw 0 [] 1048576),(1,avI x0),(5,avI x1)] [(0,Root.mk (Ty.sl yI) (Mk.own 1048576 Mk.no) x2 false)] 
def laws_markIntS_Q0_0 (v0_0:Int) (v0_1:List Int):St:=stq 19 [(0,AV.brw 0 [] 1048576),(1,avI v0_0)] [(0,Root.mk (Ty.sl yI) (Mk.own 1048576 Mk.no) v0_1 false)] 
theorem laws_markIntS_SB0 (D:DX)(n:Nat) (m:Nat) (K:Ex→St→Option (Out ctx 105)) (x0:Int) (x1:Int) (x2:List Int) :
  LQ funcTab D n 105 [.r,.l,.r,.l] (m+1) (laws_markIntS_Q0 x0 x1 x2) K=laws_markIntS_b0 D n (fun x0 x1 x2=>LQ funcTab D n 105 [.r,.l,.r,.l] m (laws_markIntS_Q0 x0 x1 x2) K) (fun v0_0 v0_1=>K (Ex.exit 0) (laws_markIntS_Q0_0 v0_0 v0_1)) x0 x1 x2:=by kernel_rfl
theorem laws_markIntS_EL0 (D:DX)(n:Nat) (K:Ex→St→Option (Out ctx 105)):∀ (m:Nat) (x0:Int) (x1:Int) (x2:List Int),LQ funcTab D n 105 [.r,.l,.r,.l] m (laws_markIntS_Q0 x0 x1 x2) K=laws_markIntS_L0 D n (fun v0_0 v0_1=>K (Ex.exit 0) (laws_markIntS_Q0_0 v0_0 v0_1)) m x0 x1 x2
  | 0,x0,x1,x2=>LQ_zero ..
  | m+1,x0,x1,x2=>by
    have ih:(fun x0 x1 x2=>LQ funcTab D n 105 [.r,.l,.r,.l] m (laws_markIntS_Q0 x0 x1 x2) K)=laws_markIntS_L0 D n (fun v0_0 v0_1=>K (Ex.exit 0) (laws_markIntS_Q0_0 v0_0 v0_1)) m:=by funext x0 x1 x2;exact laws_markIntS_EL0 D n K m x0 x1 x2
    rw[laws_markIntS_SB0]
    rw[ih];rfl
theorem laws_markIntS_X0_0 (D:DX)(n:Nat) (v0_0:Int) (v0_1:List Int) :
  (CQ funcTab D n 105 [] [.r,.l,.r,.l] (lastK funcTab 105)) (Ex.exit 0) (laws_markIntS_Q0_0 v0_0 v0_1)=laws_markIntS_x0_0 D n v0_0 v0_1:=by kernel_rfl
theorem laws_markIntS_ELP0 (D:DX)(n:Nat) (x0:Int) (x1:Int) (x2:List Int) :
  LQ funcTab D n 105 [.r,.l,.r,.l] n (laws_markIntS_Q0 x0 x1 x2) (CQ funcTab D n 105 [] [.r,.l,.r,.l] (lastK funcTab 105))=laws_markIntS_LP0 D n x0 x1 x2:=by
  rw[laws_markIntS_EL0]
  simp only[laws_markIntS_X0_0]
  rfl
theorem E_laws_markIntS (D:DX)(n:Nat) (a0:List Int) (a1:Int):rfC funcTab D n 105 (a0,(a1,()))=F_laws_markIntS D n a0 a1:=by
  have h:rfC funcTab D n 105 (a0,(a1,()))=laws_markIntS_e D n (fun x0 x1 x2=>LQ funcTab D n 105 [.r,.l,.r,.l] n (laws_markIntS_Q0 x0 x1 x2) (CQ funcTab D n 105 [] [.r,.l,.r,.l] (lastK funcTab 105))) a0 a1:=by kernel_rfl
  rw[h]
  simp only[laws_markIntS_ELP0]
  rfl

def laws_markIndexS_b0 (D:DX)(n:Nat) (go:Int→Int→tIxs→Option ((Int×Unit)×tIxs×Unit)) (K0:Int→tIxs→Option ((Int×Unit)×tIxs×Unit)) (x0:Int) (x1:Int) (x2:tIxs):Option ((Int×Unit)×tIxs×Unit):=br (decide (x1<(↑(List.length x2):Int))) (bindD (C_laws_markText D x0) fun b↦br (decide (0≤x1)&&decide (x1<(↑(List.length x2):Int))) (br (decide (0≤x1)&&decide (x1<(↑(List.length (List.set x2 (Int.toNat x1) (Prod.fst (Prod.fst b),Prod.snd (List.getD x2 (Int.toNat x1) (ByteArray.empty,[],false,()))))):Int))) (bindD (C_laws_markIntS D (Prod.fst (Prod.snd (List.getD (List.set x2 (Int.toNat x1) (Prod.fst (Prod.fst b),Prod.snd (List.getD x2 (Int.toNat x1) (ByteArray.empty,[],false,())))) (Int.toNat x1) (ByteArray.empty,[],false,())))) (IntKind.wrap IntKind.i64 (x0+1))) fun b_1↦br (lendsOk [PK.mutv (Ty.sl (Ty.int IntKind.i64)) (Mk.top (Ty.sl (Ty.int IntKind.i64))) (Mk.top (Ty.sl (Ty.int IntKind.i64))),PK.val (Ty.int IntKind.i64)] (List.map (ev (St.mk [AV.brw 0 [] 1048576,AV.val (Ty.int IntKind.i64) (IntKind.wrap IntKind.i64 (x0+1)),AV.undef,AV.undef,AV.undef,AV.val (Ty.int IntKind.i64) x1,AV.val (Ty.int IntKind.i64) x1,AV.brw 0 [] 1048576,AV.val (Ty.int IntKind.i64) (↑(List.length x2):Int),AV.val Ty.bool (decide (x1<(↑(List.length x2):Int))),AV.undef,AV.undef,AV.brw 0 [] 1048576,AV.val (Ty.int IntKind.i64) x1,AV.val (Ty.int IntKind.i64) x0,AV.val Ty.str (Prod.fst (Prod.fst b)),AV.addr 0 [Stp.idx (Int.toNat x1) 1048576],AV.addr 0 [Stp.idx (Int.toNat x1) 1048576,Stp.fst],AV.val (Ty.int IntKind.i64) x0,AV.val (Ty.int IntKind.i64) (IntKind.wrap IntKind.i64 (x0+1)),AV.brw 0 [] 1048576,AV.val (Ty.int IntKind.i64) x1,AV.addr 0 [Stp.idx (Int.toNat x1) 1048576],AV.addr 0 [Stp.idx (Int.toNat x1) 1048576,Stp.snd,Stp.fst],AV.brw 0 [Stp.idx (Int.toNat x1) 1048576,Stp.snd,Stp.fst] 0,AV.val (Ty.int IntKind.i64) (IntKind.wrap IntKind.i64 (x0+1)),AV.undef,AV.undef,AV.undef,AV.undef,AV.undef,AV.undef,AV.undef,AV.undef,AV.undef,AV.undef,AV.undef] [some (Root.mk (Ty.sl (Ty.pair Ty.str (Ty.pair (Ty.sl (Ty.int IntKind.i64)) (Ty.pair Ty.bool Ty.unit)))) (Mk.own 1048576 (Mk.pr Mk.no (Mk.pr (Mk.own 0 Mk.no) (Mk.pr Mk.no Mk.no)))) (List.set x2 (Int.toNat x1) (Prod.fst (Prod.fst b),Prod.snd (List.getD x2 (Int.toNat x1) (ByteArray.empty,[],false,())))) false),none,none,none,none,none,none,none,none,none,none,none,none,none,none,none,none,none,none,none,none,none,none,none,none,none,none,none,none,none,none,none,none,none,none,none,none])) [Operand.tmp 24,Operand.tmp 25]++avList AV.unit)) (br (decide (0≤x1)&&decide (x1<(↑(List.length (List.set (List.set x2 (Int.toNat x1) (Prod.fst (Prod.fst b),Prod.snd (List.getD x2 (Int.toNat x1) (ByteArray.empty,[],false,())))) (Int.toNat x1) (Prod.fst (List.getD (List.set x2 (Int.toNat x1) (Prod.fst (Prod.fst b),Prod.snd (List.getD x2 (Int.toNat x1) (ByteArray.empty,[],false,())))) (Int.toNat x1) (ByteArray.empty,[],false,())),Prod.fst (Prod.snd b_1),Prod.snd (Prod.snd (List.getD (List.set x2 (Int.toNat x1) (Prod.fst (Prod.fst b),Prod.snd (List.getD x2 (Int.toNat x1) (ByteArray.empty,[],false,())))) (Int.toNat x1) (ByteArray.empty,[],false,())))))):Int))) (go (IntKind.wrap IntKind.i64 (Prod.fst (Prod.fst b_1)+1)) (IntKind.wrap IntKind.i64 (x1+1)) (List.set (List.set (List.set x2 (Int.toNat x1) (Prod.fst (Prod.fst b),Prod.snd (List.getD x2 (Int.toNat x1) (ByteArray.empty,[],false,())))) (Int.toNat x1) (Prod.fst (List.getD (List.set x2 (Int.toNat x1) (Prod.fst (Prod.fst b),Prod.snd (List.getD x2 (Int.toNat x1) (ByteArray.empty,[],false,())))) (Int.toNat x1) (ByteArray.empty,[],false,())),Prod.fst (Prod.snd b_1),Prod.snd (Prod.snd (List.getD (List.set x2 (Int.toNat x1) (Prod.fst (Prod.fst b),Prod.snd (List.getD x2 (Int.toNat x1) (ByteArray.empty,[],false,())))) (Int.toNat x1) (ByteArray.empty,[],false,()))))) (Int.toNat x1) (Prod.fst (List.getD (List.set (List.set x2 (Int.toNat x1) (Prod.fst (Prod.fst b),Prod.snd (List.getD x2 (Int.toNat x1) (ByteArray.empty,[],false,())))) (Int.toNat x1) (Prod.fst (List.getD (List.set x2 (Int.toNat x1) (Prod.fst (Prod.fst b),Prod.snd (List.getD x2 (Int.toNat x1) (ByteArray.empty,[],false,())))) (Int.toNat x1) (ByteArray.empty,[],false,())),Prod.fst (Prod.snd b_1),Prod.snd (Prod.snd (List.getD (List.set x2 (Int.toNat x1) (Prod.fst (Prod.fst b),Prod.snd (List.getD x2 (Int.toNat x1) (ByteArray.empty,[],false,())))) (Int.toNat x1) (ByteArray.empty,[],false,()))))) (Int.toNat x1) (ByteArray.empty,[],false,())),Prod.fst (Prod.snd (List.getD (List.set (List.set x2 (Int.toNat x1) (Prod.fst (Prod.fst b),Prod.snd (List.getD x2 (Int.toNat x1) (ByteArray.empty,[],false,())))) (Int.toNat x1) (Prod.fst (List.getD (List.set x2 (Int.toNat x1) (Prod.fst (Prod.fst b),Prod.snd (List.getD x2 (Int.toNat x1) (ByteArray.empty,[],false,())))) (Int.toNat x1) (ByteArray.empty,[],false,())),Prod.fst (Prod.snd b_1),Prod.snd (Prod.snd (List.getD (List.set x2 (Int.toNat x1) (Prod.fst (Prod.fst b),Prod.snd (List.getD x2 (Int.toNat x1) (ByteArray.empty,[],false,())))) (Int.toNat x1) (ByteArray.empty,[],false,()))))) (Int.toNat x1) (ByteArray.empty,[],false,()))),decide (Int.tmod (Prod.fst (Prod.fst b_1)) 3=0),Prod.snd (Prod.snd (Prod.snd (List.getD (List.set (List.set x2 (Int.toNat x1) (Prod.fst (Prod.fst b),Prod.snd (List.getD x2 (Int.toNat x1) (ByteArray.empty,[],false,())))) (Int.toNat x1) (Prod.fst (List.getD (List.set x2 (Int.toNat x1) (Prod.fst (Prod.fst b),Prod.snd (List.getD x2 (Int.toNat x1) (ByteArray.empty,[],false,())))) (Int.toNat x1) (ByteArray.empty,[],false,())),Prod.fst (Prod.snd b_1),Prod.snd (Prod.snd (List.getD (List.set x2 (Int.toNat x1) (Prod.fst (Prod.fst b),Prod.snd (List.getD x2 (Int.toNat x1) (ByteArray.empty,[],false,())))) (Int.toNat x1) (ByteArray.empty,[],false,()))))) (Int.toNat x1) (ByteArray.empty,[],false,()))))))) none) none) none) none) (K0 x0 x2)
def laws_markIndexS_L0 (D:DX)(n:Nat) (K0:Int→tIxs→Option ((Int×Unit)×tIxs×Unit)):Nat→(Int)→(Int)→(tIxs)→Option ((Int×Unit)×tIxs×Unit) | 0=>(fun x0 x1 x2=>none) | m+1=>(fun x0 x1 x2=>laws_markIndexS_b0 D n (laws_markIndexS_L0 D n K0 m) K0 x0 x1 x2)
def laws_markIndexS_x0_0 (D:DX)(n:Nat) (v0_0:Int) (v0_1:tIxs):Option ((Int×Unit)×tIxs×Unit):=some ((v0_0,()),v0_1,())
def laws_markIndexS_LP0 (D:DX)(n:Nat):(Int)→(Int)→(tIxs)→Option ((Int×Unit)×tIxs×Unit):=(fun x0 x1 x2=>laws_markIndexS_L0 D n (fun v0_0 v0_1=>laws_markIndexS_x0_0 D n v0_0 v0_1) n x0 x1 x2)
def laws_markIndexS_e (D:DX)(n:Nat) (lp0:Int→Int→tIxs→Option ((Int×Unit)×tIxs×Unit)) (a0:tIxs) (a1:Int):Option ((Int×Unit)×tIxs×Unit):=lp0 a1 0 a0
def F_laws_markIndexS (D:DX)(n:Nat) (a0:tIxs) (a1:Int):Option ((Int×Unit)×tIxs×Unit):=laws_markIndexS_e D n (laws_markIndexS_LP0 D n) a0 a1
def laws_markIndexS_Q0 (x0:Int) (x1:Int) (x2:tIxs):St:=stq 37 [(0,AV.brw 0 [] 1048576),(1,avI x0),(5,avI x1)] [(0,Root.mk (Ty.sl yX) (Mk.own 1048576 (Mk.pr Mk.no (Mk.pr (Mk.own 0 Mk.no) (Mk.pr Mk.no Mk.no)))) x2 false)] 
def laws_markIndexS_Q0_0 (v0_0:Int) (v0_1:tIxs):St:=stq 37 [(0,AV.brw 0 [] 1048576),(1,avI v0_0)] [(0,Root.mk (Ty.sl yX) (Mk.own 1048576 (Mk.pr Mk.no (Mk.pr (Mk.own 0 Mk.no) (Mk.pr Mk.no Mk.no)))) v0_1 false)] 
theorem laws_markIndexS_SB0 (D:DX)(n:Nat) (m:Nat) (K:Ex→St→Option (Out ctx 106)) (x0:Int) (x1:Int) (x2:tIxs) :
  LQ funcTab D n 106 [.r,.l,.r,.l] (m+1) (laws_markIndexS_Q0 x0 x1 x2) K=laws_markIndexS_b0 D n (fun x0 x1 x2=>LQ funcTab D n 106 [.r,.l,.r,.l] m (laws_markIndexS_Q0 x0 x1 x2) K) (fun v0_0 v0_1=>K (Ex.exit 0) (laws_markIndexS_Q0_0 v0_0 v0_1)) x0 x1 x2:=by kernel_rfl
theorem laws_markIndexS_EL0 (D:DX)(n:Nat) (K:Ex→St→Option (Out ctx 106)):∀ (m:Nat) (x0:Int) (x1:Int) (x2:tIxs),LQ funcTab D n 106 [.r,.l,.r,.l] m (laws_markIndexS_Q0 x0 x1 x2) K=laws_markIndexS_L0 D n (fun v0_0 v0_1=>K (Ex.exit 0) (laws_markIndexS_Q0_0 v0_0 v0_1)) m x0 x1 x2
  | 0,x0,x1,x2=>LQ_zero ..
  | m+1,x0,x1,x2=>by
    have ih:(fun x0 x1 x2=>LQ funcTab D n 106 [.r,.l,.r,.l] m (laws_markIndexS_Q0 x0 x1 x2) K)=laws_markIndexS_L0 D n (fun v0_0 v0_1=>K (Ex.exit 0) (laws_markIndexS_Q0_0 v0_0 v0_1)) m:=by funext x0 x1 x2;exact laws_markIndexS_EL0 D n K m x0 x1 x2
    rw[laws_markIndexS_SB0]
    rw[ih];rfl
theorem laws_markIndexS_X0_0 (D:DX)(n:Nat) (v0_0:Int) (v0_1:tIxs) :
  (CQ funcTab D n 106 [] [.r,.l,.r,.l] (lastK funcTab 106)) (Ex.exit 0) (laws_markIndexS_Q0_0 v0_0 v0_1)=laws_markIndexS_x0_0 D n v0_0 v0_1:=by kernel_rfl
theorem laws_markIndexS_ELP0 (D:DX)(n:Nat) (x0:Int) (x1:Int) (x2:tIxs) :
  LQ funcTab D n 106 [.r,.l,.r,.l] n (laws_markIndexS_Q0 x0 x1 x2) (CQ funcTab D n 106 [] [.r,.l,.r,.l] (lastK funcTab 106))=laws_markIndexS_LP0 D n x0 x1 x2:=by
  rw[laws_markIndexS_EL0]
  simp only[laws_markIndexS_X0_0]
  rfl
theorem E_laws_markIndexS (D:DX)(n:Nat) (a0:tIxs) (a1:Int):rfC funcTab D n 106 (a0,(a1,()))=F_laws_markIndexS D n a0 a1:=by
  have h:rfC funcTab D n 106 (a0,(a1,()))=laws_markIndexS_e D n (fun x0 x1 x2=>LQ funcTab D n 106 [.r,.l,.r,.l] n (laws_markIndexS_Q0 x0 x1 x2) (CQ funcTab D n 106 [] [.r,.l,.r,.l] (lastK funcTab 106))) a0 a1:=by kernel_rfl
  rw[h]
  simp only[laws_markIndexS_ELP0]
  rfl

def laws_markText_b0 (D:DX)(n:Nat) (go:Int→ByteArray→Option ((ByteArray×Unit)×Unit)) (K0:ByteArray→Option ((ByteArray×Unit)×Unit)) (x0:Int) (x1:ByteArray):Option ((ByteArray×Unit)×Unit):=br (decide (x0>0)) (br (decide (ByteArray.size (ByteArray.mk (List.toArray (List.map (fun n↦UInt8.ofNat (Int.toNat n)) [IntKind.wrap IntKind.u8 (IntKind.wrap IntKind.i64 (48+Int.tmod x0 10))])))+ByteArray.size x1≤Nat.pow 2 47)) (go (IntKind.wrap IntKind.i64 (Int.tdiv x0 10)) (ByteArray.append (ByteArray.mk (List.toArray (List.map (fun n↦UInt8.ofNat (Int.toNat n)) [IntKind.wrap IntKind.u8 (IntKind.wrap IntKind.i64 (48+Int.tmod x0 10))]))) x1)) none) (K0 x1)
def laws_markText_L0 (D:DX)(n:Nat) (K0:ByteArray→Option ((ByteArray×Unit)×Unit)):Nat→(Int)→(ByteArray)→Option ((ByteArray×Unit)×Unit) | 0=>(fun x0 x1=>none) | m+1=>(fun x0 x1=>laws_markText_b0 D n (laws_markText_L0 D n K0 m) K0 x0 x1)
def laws_markText_x0_0 (D:DX)(n:Nat) (v0_0:ByteArray):Option ((ByteArray×Unit)×Unit):=br (decide (ByteArray.size (ByteArray.mk #[UInt8.ofNat 109])+ByteArray.size v0_0≤Nat.pow 2 47)) (some ((ByteArray.append (ByteArray.mk #[UInt8.ofNat 109]) v0_0,()),())) none
def laws_markText_LP0 (D:DX)(n:Nat):(Int)→(ByteArray)→Option ((ByteArray×Unit)×Unit):=(fun x0 x1=>laws_markText_L0 D n (fun v0_0=>laws_markText_x0_0 D n v0_0) n x0 x1)
def laws_markText_e (D:DX)(n:Nat) (lp0:Int→ByteArray→Option ((ByteArray×Unit)×Unit)) (a0:Int):Option ((ByteArray×Unit)×Unit):=br (decide (a0≤0)) (some ((ByteArray.mk #[UInt8.ofNat 109,UInt8.ofNat 48],()),())) (lp0 a0 (ByteArray.mk #[]))
def F_laws_markText (D:DX)(n:Nat) (a0:Int):Option ((ByteArray×Unit)×Unit):=laws_markText_e D n (laws_markText_LP0 D n) a0
def laws_markText_Q0 (x0:Int) (x1:ByteArray):St:=stq 20 [(0,avI x0),(3,AV.val Ty.str x1)] [] 
def laws_markText_Q0_0 (v0_0:ByteArray):St:=stq 20 [(3,AV.val Ty.str v0_0)] [] 
theorem laws_markText_SB0 (D:DX)(n:Nat) (m:Nat) (K:Ex→St→Option (Out ctx 107)) (x0:Int) (x1:ByteArray) :
  LQ funcTab D n 107 [.r,.r,.r,.l,.l] (m+1) (laws_markText_Q0 x0 x1) K=laws_markText_b0 D n (fun x0 x1=>LQ funcTab D n 107 [.r,.r,.r,.l,.l] m (laws_markText_Q0 x0 x1) K) (fun v0_0=>K (Ex.exit 0) (laws_markText_Q0_0 v0_0)) x0 x1:=by kernel_rfl
theorem laws_markText_EL0 (D:DX)(n:Nat) (K:Ex→St→Option (Out ctx 107)):∀ (m:Nat) (x0:Int) (x1:ByteArray),LQ funcTab D n 107 [.r,.r,.r,.l,.l] m (laws_markText_Q0 x0 x1) K=laws_markText_L0 D n (fun v0_0=>K (Ex.exit 0) (laws_markText_Q0_0 v0_0)) m x0 x1
  | 0,x0,x1=>LQ_zero ..
  | m+1,x0,x1=>by
    have ih:(fun x0 x1=>LQ funcTab D n 107 [.r,.r,.r,.l,.l] m (laws_markText_Q0 x0 x1) K)=laws_markText_L0 D n (fun v0_0=>K (Ex.exit 0) (laws_markText_Q0_0 v0_0)) m:=by funext x0 x1;exact laws_markText_EL0 D n K m x0 x1
    rw[laws_markText_SB0]
    rw[ih];rfl
theorem laws_markText_X0_0 (D:DX)(n:Nat) (v0_0:ByteArray) :
  (CQ funcTab D n 107 [] [.r,.r,.r,.l,.l] (lastK funcTab 107)) (Ex.exit 0) (laws_markText_Q0_0 v0_0)=laws_markText_x0_0 D n v0_0:=by kernel_rfl
theorem laws_markText_ELP0 (D:DX)(n:Nat) (x0:Int) (x1:ByteArray) :
  LQ funcTab D n 107 [.r,.r,.r,.l,.l] n (laws_markText_Q0 x0 x1) (CQ funcTab D n 107 [] [.r,.r,.r,.l,.l] (lastK funcTab 107))=laws_markText_LP0 D n x0 x1:=by
  rw[laws_markText_EL0]
  simp only[laws_markText_X0_0]
  rfl
theorem E_laws_markText (D:DX)(n:Nat) (a0:Int):rfC funcTab D n 107 (a0,())=F_laws_markText D n a0:=by
  have h:rfC funcTab D n 107 (a0,())=laws_markText_e D n (fun x0 x1=>LQ funcTab D n 107 [.r,.r,.r,.l,.l] n (laws_markText_Q0 x0 x1) (CQ funcTab D n 107 [] [.r,.r,.r,.l,.l] (lastK funcTab 107))) a0:=by kernel_rfl
  rw[h]
  simp only[laws_markText_ELP0]
  rfl

def laws_szValueSS_b0 (D:DX)(n:Nat) (go:tRows→Int→Int→Option ((Int×Unit)×Unit)) (K0:Int→Int→Option ((Int×Unit)×Unit)) (K1:Int→Option ((Int×Unit)×Unit)) (x0:tRows) (x1:Int) (x2:Int):Option ((Int×Unit)×Unit):=br (decide (x2<(↑(List.length x0):Int))) (br (decide (0≤x2)&&decide (x2<(↑(List.length x0):Int))) (bindD (C_laws_szValueS D (List.getD x0 (Int.toNat x2) []) x1) fun b↦br (decide (Prod.fst (Prod.fst b)<0)) (K0 (Prod.fst (Prod.fst b)) (-1)) (go x0 (Prod.fst (Prod.fst b)) (IntKind.wrap IntKind.i64 (x2+1)))) none) (K1 x1)
def laws_szValueSS_L0 (D:DX)(n:Nat) (K0:Int→Int→Option ((Int×Unit)×Unit)) (K1:Int→Option ((Int×Unit)×Unit)):Nat→(tRows)→(Int)→(Int)→Option ((Int×Unit)×Unit) | 0=>(fun x0 x1 x2=>none) | m+1=>(fun x0 x1 x2=>laws_szValueSS_b0 D n (laws_szValueSS_L0 D n K0 K1 m) K0 K1 x0 x1 x2)
def laws_szValueSS_x0_0 (D:DX)(n:Nat) (v0_0:Int) (v0_1:Int):Option ((Int×Unit)×Unit):=some ((v0_1,()),())
def laws_szValueSS_x0_1 (D:DX)(n:Nat) (v1_0:Int):Option ((Int×Unit)×Unit):=some ((v1_0,()),())
def laws_szValueSS_LP0 (D:DX)(n:Nat):(tRows)→(Int)→(Int)→Option ((Int×Unit)×Unit):=(fun x0 x1 x2=>laws_szValueSS_L0 D n (fun v0_0 v0_1=>laws_szValueSS_x0_0 D n v0_0 v0_1) (fun v1_0=>laws_szValueSS_x0_1 D n v1_0) n x0 x1 x2)
def laws_szValueSS_e (D:DX)(n:Nat) (lp0:tRows→Int→Int→Option ((Int×Unit)×Unit)) (a0:tRows) (a1:Int):Option ((Int×Unit)×Unit):=br (decide (IntKind.wrap IntKind.i64 (a1 - (↑(List.length a0):Int))<0)) (some ((-1,()),())) (lp0 a0 (IntKind.wrap IntKind.i64 (a1 - (↑(List.length a0):Int))) 0)
def F_laws_szValueSS (D:DX)(n:Nat) (a0:tRows) (a1:Int):Option ((Int×Unit)×Unit):=laws_szValueSS_e D n (laws_szValueSS_LP0 D n) a0 a1
def laws_szValueSS_Q0 (x0:tRows) (x1:Int) (x2:Int):St:=stq 27 [(0,AV.val (Ty.sl (Ty.sl yV)) x0),(1,avI x1),(5,avI x2)] [] 
def laws_szValueSS_Q0_0 (v0_0:Int) (v0_1:Int):St:=stq 27 [(1,avI v0_0),(4,avI v0_1)] [] 
def laws_szValueSS_Q0_1 (v1_0:Int):St:=stq 27 [(1,avI v1_0)] [] 
theorem laws_szValueSS_SB0 (D:DX)(n:Nat) (m:Nat) (K:Ex→St→Option (Out ctx 108)) (x0:tRows) (x1:Int) (x2:Int) :
  LQ funcTab D n 108 [.r,.r,.r,.l,.r,.l] (m+1) (laws_szValueSS_Q0 x0 x1 x2) K=laws_szValueSS_b0 D n (fun x0 x1 x2=>LQ funcTab D n 108 [.r,.r,.r,.l,.r,.l] m (laws_szValueSS_Q0 x0 x1 x2) K) (fun v0_0 v0_1=>K (Ex.ret) (laws_szValueSS_Q0_0 v0_0 v0_1)) (fun v1_0=>K (Ex.exit 0) (laws_szValueSS_Q0_1 v1_0)) x0 x1 x2:=by kernel_rfl
theorem laws_szValueSS_EL0 (D:DX)(n:Nat) (K:Ex→St→Option (Out ctx 108)):∀ (m:Nat) (x0:tRows) (x1:Int) (x2:Int),LQ funcTab D n 108 [.r,.r,.r,.l,.r,.l] m (laws_szValueSS_Q0 x0 x1 x2) K=laws_szValueSS_L0 D n (fun v0_0 v0_1=>K (Ex.ret) (laws_szValueSS_Q0_0 v0_0 v0_1)) (fun v1_0=>K (Ex.exit 0) (laws_szValueSS_Q0_1 v1_0)) m x0 x1 x2
  | 0,x0,x1,x2=>LQ_zero ..
  | m+1,x0,x1,x2=>by
    have ih:(fun x0 x1 x2=>LQ funcTab D n 108 [.r,.r,.r,.l,.r,.l] m (laws_szValueSS_Q0 x0 x1 x2) K)=laws_szValueSS_L0 D n (fun v0_0 v0_1=>K (Ex.ret) (laws_szValueSS_Q0_0 v0_0 v0_1)) (fun v1_0=>K (Ex.exit 0) (laws_szValueSS_Q0_1 v1_0)) m:=by funext x0 x1 x2;exact laws_szValueSS_EL0 D n K m x0 x1 x2
    rw[laws_szValueSS_SB0]
    rw[ih];rfl
theorem laws_szValueSS_X0_0 (D:DX)(n:Nat) (v0_0:Int) (v0_1:Int) :
  (CQ funcTab D n 108 [] [.r,.r,.r,.l,.r,.l] (lastK funcTab 108)) (Ex.ret) (laws_szValueSS_Q0_0 v0_0 v0_1)=laws_szValueSS_x0_0 D n v0_0 v0_1:=by kernel_rfl
theorem laws_szValueSS_X0_1 (D:DX)(n:Nat) (v1_0:Int) :
  (CQ funcTab D n 108 [] [.r,.r,.r,.l,.r,.l] (lastK funcTab 108)) (Ex.exit 0) (laws_szValueSS_Q0_1 v1_0)=laws_szValueSS_x0_1 D n v1_0:=by kernel_rfl
theorem laws_szValueSS_ELP0 (D:DX)(n:Nat) (x0:tRows) (x1:Int) (x2:Int) :
  LQ funcTab D n 108 [.r,.r,.r,.l,.r,.l] n (laws_szValueSS_Q0 x0 x1 x2) (CQ funcTab D n 108 [] [.r,.r,.r,.l,.r,.l] (lastK funcTab 108))=laws_szValueSS_LP0 D n x0 x1 x2:=by
  rw[laws_szValueSS_EL0]
  simp only[laws_szValueSS_X0_0,laws_szValueSS_X0_1]
  rfl
theorem E_laws_szValueSS (D:DX)(n:Nat) (a0:tRows) (a1:Int):rfC funcTab D n 108 (a0,(a1,()))=F_laws_szValueSS D n a0 a1:=by
  have h:rfC funcTab D n 108 (a0,(a1,()))=laws_szValueSS_e D n (fun x0 x1 x2=>LQ funcTab D n 108 [.r,.r,.r,.l,.r,.l] n (laws_szValueSS_Q0 x0 x1 x2) (CQ funcTab D n 108 [] [.r,.r,.r,.l,.r,.l] (lastK funcTab 108))) a0 a1:=by kernel_rfl
  rw[h]
  simp only[laws_szValueSS_ELP0]
  rfl

def spec_TupleBytes_b0 (D:DX)(n:Nat) (go:tVals→Int→List Int→Option ((List Int×Unit)×Unit)) (K0:List Int→Option ((List Int×Unit)×Unit)) (x0:tVals) (x1:Int) (x2:List Int):Option ((List Int×Unit)×Unit):=br (decide (x1<(↑(List.length x0):Int))) (bindD (C_spec_TupleOk D x0) fun b↦br (Prod.fst (Prod.fst b)) (br (decide (0≤x1)&&decide (x1<(↑(List.length x0):Int))) (bindD (C_spec_l18Value D (List.getD x0 (Int.toNat x1) (0,0,ByteArray.empty,()))) fun b↦br (decide (List.length x2+List.length (Prod.fst (Prod.fst b))≤bound)) (go x0 (IntKind.wrap IntKind.i64 (x1+1)) (x2++Prod.fst (Prod.fst b))) none) none) (K0 x2)) (K0 x2)
def spec_TupleBytes_L0 (D:DX)(n:Nat) (K0:List Int→Option ((List Int×Unit)×Unit)):Nat→(tVals)→(Int)→(List Int)→Option ((List Int×Unit)×Unit) | 0=>(fun x0 x1 x2=>none) | m+1=>(fun x0 x1 x2=>spec_TupleBytes_b0 D n (spec_TupleBytes_L0 D n K0 m) K0 x0 x1 x2)
def spec_TupleBytes_x0_0 (D:DX)(n:Nat) (v0_0:List Int):Option ((List Int×Unit)×Unit):=some ((v0_0,()),())
def spec_TupleBytes_LP0 (D:DX)(n:Nat):(tVals)→(Int)→(List Int)→Option ((List Int×Unit)×Unit):=(fun x0 x1 x2=>spec_TupleBytes_L0 D n (fun v0_0=>spec_TupleBytes_x0_0 D n v0_0) n x0 x1 x2)
def spec_TupleBytes_e (D:DX)(n:Nat) (lp0:tVals→Int→List Int→Option ((List Int×Unit)×Unit)) (a0:tVals):Option ((List Int×Unit)×Unit):=lp0 a0 0 []
def F_spec_TupleBytes (D:DX)(n:Nat) (a0:tVals):Option ((List Int×Unit)×Unit):=spec_TupleBytes_e D n (spec_TupleBytes_LP0 D n) a0
def spec_TupleBytes_Q0 (x0:tVals) (x1:Int) (x2:List Int):St:=stq 24 [(0,AV.val (Ty.sl yV) x0),(3,AV.brw 3 [] 0),(4,avI x1)] [(3,Root.mk (Ty.sl (Ty.int IntKind.u8)) (Mk.own 0 Mk.no) x2 false)] 
def spec_TupleBytes_Q0_0 (v0_0:List Int):St:=stq 24 [(3,AV.brw 3 [] 0)] [(3,Root.mk (Ty.sl (Ty.int IntKind.u8)) (Mk.own 0 Mk.no) v0_0 false)] 
theorem spec_TupleBytes_SB0 (D:DX)(n:Nat) (m:Nat) (K:Ex→St→Option (Out ctx 109)) (x0:tVals) (x1:Int) (x2:List Int) :
  LQ funcTab D n 109 [.r,.r,.l,.r,.l] (m+1) (spec_TupleBytes_Q0 x0 x1 x2) K=spec_TupleBytes_b0 D n (fun x0 x1 x2=>LQ funcTab D n 109 [.r,.r,.l,.r,.l] m (spec_TupleBytes_Q0 x0 x1 x2) K) (fun v0_0=>K (Ex.exit 0) (spec_TupleBytes_Q0_0 v0_0)) x0 x1 x2:=by kernel_rfl
theorem spec_TupleBytes_EL0 (D:DX)(n:Nat) (K:Ex→St→Option (Out ctx 109)):∀ (m:Nat) (x0:tVals) (x1:Int) (x2:List Int),LQ funcTab D n 109 [.r,.r,.l,.r,.l] m (spec_TupleBytes_Q0 x0 x1 x2) K=spec_TupleBytes_L0 D n (fun v0_0=>K (Ex.exit 0) (spec_TupleBytes_Q0_0 v0_0)) m x0 x1 x2
  | 0,x0,x1,x2=>LQ_zero ..
  | m+1,x0,x1,x2=>by
    have ih:(fun x0 x1 x2=>LQ funcTab D n 109 [.r,.r,.l,.r,.l] m (spec_TupleBytes_Q0 x0 x1 x2) K)=spec_TupleBytes_L0 D n (fun v0_0=>K (Ex.exit 0) (spec_TupleBytes_Q0_0 v0_0)) m:=by funext x0 x1 x2;exact spec_TupleBytes_EL0 D n K m x0 x1 x2
    rw[spec_TupleBytes_SB0]
    rw[ih];rfl
theorem spec_TupleBytes_X0_0 (D:DX)(n:Nat) (v0_0:List Int) :
  (CQ funcTab D n 109 [] [.r,.r,.l,.r,.l] (lastK funcTab 109)) (Ex.exit 0) (spec_TupleBytes_Q0_0 v0_0)=spec_TupleBytes_x0_0 D n v0_0:=by kernel_rfl
theorem spec_TupleBytes_ELP0 (D:DX)(n:Nat) (x0:tVals) (x1:Int) (x2:List Int) :
  LQ funcTab D n 109 [.r,.r,.l,.r,.l] n (spec_TupleBytes_Q0 x0 x1 x2) (CQ funcTab D n 109 [] [.r,.r,.l,.r,.l] (lastK funcTab 109))=spec_TupleBytes_LP0 D n x0 x1 x2:=by
  rw[spec_TupleBytes_EL0]
  simp only[spec_TupleBytes_X0_0]
  rfl
theorem E_spec_TupleBytes (D:DX)(n:Nat) (a0:tVals):rfC funcTab D n 109 (a0,())=F_spec_TupleBytes D n a0:=by
  have h:rfC funcTab D n 109 (a0,())=spec_TupleBytes_e D n (fun x0 x1 x2=>LQ funcTab D n 109 [.r,.r,.l,.r,.l] n (spec_TupleBytes_Q0 x0 x1 x2) (CQ funcTab D n 109 [] [.r,.r,.l,.r,.l] (lastK funcTab 109))) a0:=by kernel_rfl
  rw[h]
  simp only[spec_TupleBytes_ELP0]
  rfl
end
end Go.G


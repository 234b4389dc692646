import Derived.Test.YtfafjngknkbngaaGreatAV3
set_option linter.unusedVariables false
set_option linter.unusedSimpArgs false
set_option linter.unusedSectionVars false
namespace Go.G
open Go Go.V
abbrev DX:=Den ctx
abbrev tVal:=Int×Int×ByteArray×Unit
abbrev tVals:=List tVal
abbrev tRows:=List tVals
abbrev tIx:=ByteArray×List Int×Bool×Unit
abbrev tIxs:=List tIx
abbrev tCol:=ByteArray×Int×Bool×Unit
abbrev tCols:=List tCol
abbrev tSch:=tCols×List Int×tIxs×Unit
abbrev avI:=AV.val (Ty.int IntKind.i64)
abbrev yI:=Ty.int IntKind.i64
abbrev yC:=Ty.pair Ty.str (Ty.pair yI (Ty.pair Ty.bool Ty.unit))
abbrev yX:=Ty.pair Ty.str (Ty.pair (Ty.sl yI) (Ty.pair Ty.bool Ty.unit))
abbrev yV:=Ty.pair yI (Ty.pair yI (Ty.pair Ty.str Ty.unit))
abbrev yS:=Ty.pair (Ty.sl yC) (Ty.pair (Ty.sl yI) (Ty.pair (Ty.sl yX) Ty.unit))
end Go.G
namespace Go.G
open Go Go.V
noncomputable def C_laws_FnExactReplace (D:Den ctx) (a0:(tSch)×tRows×Unit) (a1:tVals):Option ((Bool×Unit)×Unit):=D 8 (a0,(a1,()))
noncomputable def C_impl_RelOk (D:Den ctx) (a0:(tSch)×tRows×Unit):Option ((Bool×Unit)×Unit):=D 17 (a0,())
noncomputable def C_impl_KeyOfRow (D:Den ctx) (a0:tSch) (a1:tVals):Option ((tVals×Unit)×Unit):=D 23 (a0,(a1,()))
noncomputable def C_impl_Replace (D:Den ctx) (a0:(tSch)×tRows×Unit) (a1:tVals):Option ((((tSch)×tRows×Unit)×Int×Unit)×Unit):=D 26 (a0,(a1,()))
noncomputable def C_spec_Replace (D:Den ctx) (a0:(tSch)×tRows×Unit) (a1:tVals):Option ((((tSch)×tRows×Unit)×Int×Unit)×Unit):=D 32 (a0,(a1,()))
noncomputable def C_spec_RelOk (D:Den ctx) (a0:(tSch)×tRows×Unit):Option ((Bool×Unit)×Unit):=D 41 (a0,())
noncomputable def C_laws_szRelation (D:Den ctx) (a0:(tSch)×tRows×Unit) (a1:Int):Option ((Int×Unit)×Unit):=D 53 (a0,(a1,()))
noncomputable def C_laws_szValueS (D:Den ctx) (a0:tVals) (a1:Int):Option ((Int×Unit)×Unit):=D 54 (a0,(a1,()))
noncomputable def C_laws_toRelation (D:Den ctx) (a0:(tSch)×tRows×Unit):Option ((((tSch)×tRows×Unit)×Unit)×Unit):=D 55 (a0,())
noncomputable def C_laws_toValueS (D:Den ctx) (a0:tVals):Option ((tVals×Unit)×Unit):=D 56 (a0,())
noncomputable def C_laws_eqRelation (D:Den ctx) (a0:(tSch)×tRows×Unit) (a1:(tSch)×tRows×Unit):Option ((Bool×Unit)×Unit):=D 57 (a0,(a1,()))
noncomputable def C_laws_eqValueS (D:Den ctx) (a0:tVals) (a1:tVals):Option ((Bool×Unit)×Unit):=D 58 (a0,(a1,()))
noncomputable def C_laws_markRelation (D:Den ctx) (a0:(tSch)×tRows×Unit) (a1:Int):Option ((Int×Unit)×((tSch)×tRows×Unit)×Unit):=D 59 (a0,(a1,()))
noncomputable def C_laws_markValueS (D:Den ctx) (a0:tVals) (a1:Int):Option ((Int×Unit)×tVals×Unit):=D 60 (a0,(a1,()))
noncomputable def C_laws_heldRelation (D:Den ctx) (a0:(tSch)×tRows×Unit) (a1:Int):Option ((Int×Unit)×Unit):=D 61 (a0,(a1,()))
noncomputable def C_impl_from (D:Den ctx) (a0:Int) (a1:Int) (a2:Int):Option ((Bool×Unit)×Unit):=D 68 (a0,(a1,(a2,())))
noncomputable def C_impl_RowOk (D:Den ctx) (a0:tSch) (a1:tVals):Option ((Bool×Unit)×Unit):=D 77 (a0,(a1,()))
noncomputable def C_impl_TupleLess (D:Den ctx) (a0:tVals) (a1:tVals):Option ((Bool×Unit)×Unit):=D 78 (a0,(a1,()))
noncomputable def C_slices_ContainsFunc_impl_Value_impl_Value (D:Den ctx) (a0:tRows) (a1:Clo):Option ((Bool×Unit)×Unit):=D 79 (a0,(a1,()))
noncomputable def C_impl_RelOk_1 (D:Den ctx) (a0:tVals) (a1:(tSch)×tRows×Unit) (a2:tVals):Option ((Bool×Unit)×Unit):=D 80 (a0,(a1,(a2,())))
noncomputable def C_impl_clash (D:Den ctx) (a0:tSch) (a1:tVals) (a2:tVals):Option ((Bool×Unit)×Unit):=D 81 (a0,(a1,(a2,())))
noncomputable def C_impl_SchemaOk (D:Den ctx) (a0:tSch):Option ((Bool×Unit)×Unit):=D 82 (a0,())
noncomputable def C_impl_copyRelation (D:Den ctx) (a0:(tSch)×tRows×Unit):Option ((((tSch)×tRows×Unit)×Unit)×Unit):=D 83 (a0,())
noncomputable def C_impl_keyAt (D:Den ctx) (a0:(tSch)×tRows×Unit) (a1:tVals):Option ((Int×Unit)×Unit):=D 84 (a0,(a1,()))
noncomputable def C_slices_IndexFunc_impl_Value_impl_Value (D:Den ctx) (a0:tRows) (a1:Clo):Option ((Int×Unit)×Unit):=D 86 (a0,(a1,()))
noncomputable def C_slices_Clone_impl_Value_impl_Value (D:Den ctx) (a0:tVals):Option ((tVals×Unit)×Unit):=D 89 (a0,())
noncomputable def C_impl_Project (D:Den ctx) (a0:tVals) (a1:List Int):Option ((tVals×Unit)×Unit):=D 94 (a0,(a1,()))
noncomputable def C_spec_l21Copy (D:Den ctx) (a0:(tSch)×tRows×Unit):Option ((((tSch)×tRows×Unit)×Unit)×Unit):=D 99 (a0,())
noncomputable def C_spec_RowOk (D:Den ctx) (a0:tSch) (a1:tVals):Option ((Bool×Unit)×Unit):=D 100 (a0,(a1,()))
noncomputable def C_spec_l21At (D:Den ctx) (a0:(tSch)×tRows×Unit) (a1:tVals):Option ((Int×Unit)×Unit):=D 101 (a0,(a1,()))
noncomputable def C_spec_KeyOfRow (D:Den ctx) (a0:tSch) (a1:tVals):Option ((tVals×Unit)×Unit):=D 102 (a0,(a1,()))
noncomputable def C_spec_l21Others (D:Den ctx) (a0:(tSch)×tRows×Unit) (a1:tVals) (a2:Int):Option ((Bool×Unit)×Unit):=D 103 (a0,(a1,(a2,())))
noncomputable def C_spec_TupleLess (D:Den ctx) (a0:tVals) (a1:tVals):Option ((Bool×Unit)×Unit):=D 104 (a0,(a1,()))
noncomputable def C_spec_l21Rows (D:Den ctx) (a0:tRows):Option ((tRows×Unit)×Unit):=D 105 (a0,())
noncomputable def C_impl_copySchema (D:Den ctx) (a0:tSch):Option (((tSch)×Unit)×Unit):=D 107 (a0,())
noncomputable def C_spec_l19Copy (D:Den ctx) (a0:tSch):Option (((tSch)×Unit)×Unit):=D 108 (a0,())
noncomputable def C_spec_l21Clash (D:Den ctx) (a0:tSch) (a1:tVals) (a2:tVals):Option ((Bool×Unit)×Unit):=D 111 (a0,(a1,(a2,())))
noncomputable def C_spec_SchemaOk (D:Den ctx) (a0:tSch):Option ((Bool×Unit)×Unit):=D 112 (a0,())
noncomputable def C_spec_l1In (D:Den ctx) (a0:Int) (a1:Int) (a2:Int):Option ((Bool×Unit)×Unit):=D 117 (a0,(a1,(a2,())))
noncomputable def C_spec_Project (D:Den ctx) (a0:tVals) (a1:List Int):Option ((tVals×Unit)×Unit):=D 119 (a0,(a1,()))
noncomputable def C_laws_szSchema (D:Den ctx) (a0:tSch) (a1:Int):Option ((Int×Unit)×Unit):=D 120 (a0,(a1,()))
noncomputable def C_laws_szValueSS (D:Den ctx) (a0:tRows) (a1:Int):Option ((Int×Unit)×Unit):=D 121 (a0,(a1,()))
noncomputable def C_laws_szValue (D:Den ctx) (a0:Int×Int×ByteArray×Unit) (a1:Int):Option ((Int×Unit)×Unit):=D 122 (a0,(a1,()))
noncomputable def C_laws_toSchema (D:Den ctx) (a0:tSch):Option (((tSch)×Unit)×Unit):=D 123 (a0,())
noncomputable def C_laws_toValueSS (D:Den ctx) (a0:tRows):Option ((tRows×Unit)×Unit):=D 124 (a0,())
noncomputable def C_laws_toValue (D:Den ctx) (a0:Int×Int×ByteArray×Unit):Option ((tVal×Unit)×Unit):=D 125 (a0,())
noncomputable def C_laws_eqSchema (D:Den ctx) (a0:tSch) (a1:tSch):Option ((Bool×Unit)×Unit):=D 126 (a0,(a1,()))
noncomputable def C_laws_eqValueSS (D:Den ctx) (a0:tRows) (a1:tRows):Option ((Bool×Unit)×Unit):=D 127 (a0,(a1,()))
noncomputable def C_laws_eqValue (D:Den ctx) (a0:Int×Int×ByteArray×Unit) (a1:Int×Int×ByteArray×Unit):Option ((Bool×Unit)×Unit):=D 128 (a0,(a1,()))
noncomputable def C_laws_markSchema (D:Den ctx) (a0:tSch) (a1:Int):Option ((Int×Unit)×(tSch)×Unit):=D 129 (a0,(a1,()))
noncomputable def C_laws_markValueSS (D:Den ctx) (a0:tRows) (a1:Int):Option ((Int×Unit)×tRows×Unit):=D 130 (a0,(a1,()))
noncomputable def C_laws_markText (D:Den ctx) (a0:Int):Option ((ByteArray×Unit)×Unit):=D 131 (a0,())
noncomputable def C_laws_heldSchema (D:Den ctx) (a0:tSch) (a1:Int):Option ((Int×Unit)×Unit):=D 132 (a0,(a1,()))
noncomputable def C_laws_heldValueSS (D:Den ctx) (a0:tRows) (a1:Int):Option ((Int×Unit)×Unit):=D 133 (a0,(a1,()))
noncomputable def C_slices_Clone_int_int (D:Den ctx) (a0:List Int):Option ((List Int×Unit)×Unit):=D 138 (a0,())
noncomputable def C_impl_ValueOk (D:Den ctx) (a0:Int×Int×ByteArray×Unit):Option ((Bool×Unit)×Unit):=D 139 (a0,())
noncomputable def C_slices_CompareFunc_impl_Value_impl_Value_impl_Value_impl_Value (D:Den ctx) (a0:tVals) (a1:tVals) (a2:Clo):Option ((Int×Unit)×Unit):=D 140 (a0,(a1,(a2,())))
noncomputable def C_impl_byValue (D:Den ctx) (a0:Int×Int×ByteArray×Unit) (a1:Int×Int×ByteArray×Unit):Option ((Int×Unit)×Unit):=D 141 (a0,(a1,()))
noncomputable def C_slices_ContainsFunc_impl_Index_impl_Index (D:Den ctx) (a0:tIxs) (a1:Clo):Option ((Bool×Unit)×Unit):=D 142 (a0,(a1,()))
noncomputable def C_impl_clash_1 (D:Den ctx) (a0:ByteArray×List Int×Bool×Unit) (a1:tVals) (a2:tVals):Option ((Bool×Unit)×Unit):=D 143 (a0,(a1,(a2,())))
noncomputable def C_slices_Contains_impl_Value_impl_Value (D:Den ctx) (a0:tVals) (a1:Int×Int×ByteArray×Unit):Option ((Bool×Unit)×Unit):=D 144 (a0,(a1,()))
noncomputable def C_slices_Equal_impl_Value_impl_Value (D:Den ctx) (a0:tVals) (a1:tVals):Option ((Bool×Unit)×Unit):=D 145 (a0,(a1,()))
noncomputable def C_impl_ColNameOk (D:Den ctx) (a0:ByteArray):Option ((Bool×Unit)×Unit):=D 146 (a0,())
noncomputable def C_impl_ColAt (D:Den ctx) (a0:tSch) (a1:ByteArray):Option ((Int×Unit)×Unit):=D 147 (a0,(a1,()))
noncomputable def C_impl_placesOk (D:Den ctx) (a0:tSch) (a1:List Int) (a2:Int):Option ((Bool×Unit)×Unit):=D 148 (a0,(a1,(a2,())))
noncomputable def C_impl_SchemaOk_1 (D:Den ctx) (a0:ByteArray×List Int×Bool×Unit) (a1:ByteArray×List Int×Bool×Unit):Option ((Bool×Unit)×Unit):=D 149 (a0,(a1,()))
noncomputable def C_slices_ContainsFunc_int_int (D:Den ctx) (a0:List Int) (a1:Clo):Option ((Bool×Unit)×Unit):=D 150 (a0,(a1,()))
noncomputable def C_impl_SchemaOk_2 (D:Den ctx) (a0:Int) (a1:tSch):Option ((Bool×Unit)×Unit):=D 151 (a0,(a1,()))
noncomputable def C_impl_copyTuples (D:Den ctx) (a0:tRows):Option ((tRows×Unit)×Unit):=D 152 (a0,())
noncomputable def C_impl_keyAt_1 (D:Den ctx) (a0:tVals) (a1:(tSch)×tRows×Unit) (a2:tVals):Option ((Bool×Unit)×Unit):=D 153 (a0,(a1,(a2,())))
noncomputable def C_spec_ValueOk (D:Den ctx) (a0:Int×Int×ByteArray×Unit):Option ((Bool×Unit)×Unit):=D 158 (a0,())
noncomputable def C_spec_l18Same (D:Den ctx) (a0:tVals) (a1:tVals):Option ((Bool×Unit)×Unit):=D 159 (a0,(a1,()))
noncomputable def C_spec_ValueSame (D:Den ctx) (a0:Int×Int×ByteArray×Unit) (a1:Int×Int×ByteArray×Unit):Option ((Bool×Unit)×Unit):=D 160 (a0,(a1,()))
noncomputable def C_spec_ValueLess (D:Den ctx) (a0:Int×Int×ByteArray×Unit) (a1:Int×Int×ByteArray×Unit):Option ((Bool×Unit)×Unit):=D 161 (a0,(a1,()))
noncomputable def C_slices_Clone_impl_Col_impl_Col (D:Den ctx) (a0:tCols):Option ((tCols×Unit)×Unit):=D 164 (a0,())
noncomputable def C_spec_l21Some (D:Den ctx) (a0:tVals):Option ((Bool×Unit)×Unit):=D 165 (a0,())
noncomputable def C_spec_ColNameOk (D:Den ctx) (a0:ByteArray):Option ((Bool×Unit)×Unit):=D 166 (a0,())
noncomputable def C_spec_ColAt (D:Den ctx) (a0:tSch) (a1:ByteArray):Option ((Int×Unit)×Unit):=D 167 (a0,(a1,()))
noncomputable def C_spec_l19Places (D:Den ctx) (a0:tSch) (a1:List Int) (a2:Int):Option ((Bool×Unit)×Unit):=D 168 (a0,(a1,(a2,())))
noncomputable def C_spec_l19Indexes (D:Den ctx) (a0:tSch):Option ((Bool×Unit)×Unit):=D 169 (a0,())
noncomputable def C_laws_szColS (D:Den ctx) (a0:tCols) (a1:Int):Option ((Int×Unit)×Unit):=D 174 (a0,(a1,()))
noncomputable def C_laws_szIntS (D:Den ctx) (a0:List Int) (a1:Int):Option ((Int×Unit)×Unit):=D 175 (a0,(a1,()))
noncomputable def C_laws_szIndexS (D:Den ctx) (a0:tIxs) (a1:Int):Option ((Int×Unit)×Unit):=D 176 (a0,(a1,()))
noncomputable def C_laws_toColS (D:Den ctx) (a0:tCols):Option ((tCols×Unit)×Unit):=D 177 (a0,())
noncomputable def C_laws_toIntS (D:Den ctx) (a0:List Int):Option ((List Int×Unit)×Unit):=D 178 (a0,())
noncomputable def C_laws_toIndexS (D:Den ctx) (a0:tIxs):Option ((tIxs×Unit)×Unit):=D 179 (a0,())
noncomputable def C_laws_eqColS (D:Den ctx) (a0:tCols) (a1:tCols):Option ((Bool×Unit)×Unit):=D 180 (a0,(a1,()))
noncomputable def C_laws_eqIntS (D:Den ctx) (a0:List Int) (a1:List Int):Option ((Bool×Unit)×Unit):=D 181 (a0,(a1,()))
noncomputable def C_laws_eqIndexS (D:Den ctx) (a0:tIxs) (a1:tIxs):Option ((Bool×Unit)×Unit):=D 182 (a0,(a1,()))
noncomputable def C_laws_markColS (D:Den ctx) (a0:tCols) (a1:Int):Option ((Int×Unit)×tCols×Unit):=D 183 (a0,(a1,()))
noncomputable def C_laws_markIntS (D:Den ctx) (a0:List Int) (a1:Int):Option ((Int×Unit)×List Int×Unit):=D 184 (a0,(a1,()))
noncomputable def C_laws_markIndexS (D:Den ctx) (a0:tIxs) (a1:Int):Option ((Int×Unit)×tIxs×Unit):=D 185 (a0,(a1,()))
noncomputable def C_laws_heldColS (D:Den ctx) (a0:tCols) (a1:Int):Option ((Int×Unit)×Unit):=D 186 (a0,(a1,()))
noncomputable def C_laws_heldIntS (D:Den ctx) (a0:List Int) (a1:Int):Option ((Int×Unit)×Unit):=D 187 (a0,(a1,()))
noncomputable def C_laws_heldIndexS (D:Den ctx) (a0:tIxs) (a1:Int):Option ((Int×Unit)×Unit):=D 188 (a0,(a1,()))
noncomputable def C_laws_heldValueS (D:Den ctx) (a0:tVals) (a1:Int):Option ((Int×Unit)×Unit):=D 189 (a0,(a1,()))
noncomputable def C_strings_Compare (D:Den ctx) (a0:ByteArray) (a1:ByteArray):Option ((Int×Unit)×Unit):=D 192 (a0,(a1,()))
noncomputable def C_slices_IndexFunc_impl_Index_impl_Index (D:Den ctx) (a0:tIxs) (a1:Clo):Option ((Int×Unit)×Unit):=D 193 (a0,(a1,()))
noncomputable def C_slices_Index_impl_Value_impl_Value (D:Den ctx) (a0:tVals) (a1:Int×Int×ByteArray×Unit):Option ((Int×Unit)×Unit):=D 194 (a0,(a1,()))
noncomputable def C_slices_IndexFunc_impl_Col_impl_Col (D:Den ctx) (a0:tCols) (a1:Clo):Option ((Int×Unit)×Unit):=D 195 (a0,(a1,()))
noncomputable def C_impl_ColAt_1 (D:Den ctx) (a0:ByteArray×Int×Bool×Unit) (a1:ByteArray):Option ((Bool×Unit)×Unit):=D 196 (a0,(a1,()))
noncomputable def C_slices_Contains_int_int (D:Den ctx) (a0:List Int) (a1:Int):Option ((Bool×Unit)×Unit):=D 197 (a0,(a1,()))
noncomputable def C_slices_IndexFunc_int_int (D:Den ctx) (a0:List Int) (a1:Clo):Option ((Int×Unit)×Unit):=D 198 (a0,(a1,()))
noncomputable def C_laws_szCol (D:Den ctx) (a0:ByteArray×Int×Bool×Unit) (a1:Int):Option ((Int×Unit)×Unit):=D 201 (a0,(a1,()))
noncomputable def C_laws_szIndex (D:Den ctx) (a0:ByteArray×List Int×Bool×Unit) (a1:Int):Option ((Int×Unit)×Unit):=D 202 (a0,(a1,()))
noncomputable def C_laws_toCol (D:Den ctx) (a0:ByteArray×Int×Bool×Unit):Option ((tCol×Unit)×Unit):=D 203 (a0,())
noncomputable def C_laws_toIndex (D:Den ctx) (a0:ByteArray×List Int×Bool×Unit):Option ((tIx×Unit)×Unit):=D 204 (a0,())
noncomputable def C_laws_eqCol (D:Den ctx) (a0:ByteArray×Int×Bool×Unit) (a1:ByteArray×Int×Bool×Unit):Option ((Bool×Unit)×Unit):=D 205 (a0,(a1,()))
noncomputable def C_laws_eqIndex (D:Den ctx) (a0:ByteArray×List Int×Bool×Unit) (a1:ByteArray×List Int×Bool×Unit):Option ((Bool×Unit)×Unit):=D 206 (a0,(a1,()))
noncomputable def C_slices_Index_int_int (D:Den ctx) (a0:List Int) (a1:Int):Option ((Int×Unit)×Unit):=D 210 (a0,(a1,()))
end Go.G

namespace Go.G
set_option maxRecDepth 100000
set_option maxHeartbeats 0
open Go Go.V
noncomputable section
def laws_FnExactReplace_e (D:DX)(n:Nat) (a0:(tSch)×tRows×Unit) (a1:tVals):Option ((Bool×Unit)×Unit):=bindD (C_laws_szRelation D a0 1048576) fun b↦br (decide (Prod.fst (Prod.fst b)<0)) (some ((true,()),())) (bindD (C_laws_szValueS D a1 (Prod.fst (Prod.fst b))) fun b↦br (decide (Prod.fst (Prod.fst b)<0)) (some ((true,()),())) (bindD (C_laws_toRelation D a0) fun b↦bindD (C_laws_toValueS D a1) fun b_1↦bindD (C_spec_Replace D (Prod.fst (Prod.fst b)) (Prod.fst (Prod.fst b_1))) fun b↦bindD (C_laws_toRelation D a0) fun b_2↦bindD (C_laws_toValueS D a1) fun b_3↦bindD (C_impl_Replace D ((Prod.fst (Prod.fst (Prod.fst (Prod.fst b_2))),Prod.fst (Prod.snd (Prod.fst (Prod.fst (Prod.fst b_2)))),Prod.fst (Prod.snd (Prod.snd (Prod.fst (Prod.fst (Prod.fst b_2))))),()),Prod.fst (Prod.snd (Prod.fst (Prod.fst b_2))),()) (Prod.fst (Prod.fst b_3))) fun b_4↦bindD (C_laws_eqRelation D ((Prod.fst (Prod.fst (Prod.fst (Prod.fst b_4))),Prod.fst (Prod.snd (Prod.fst (Prod.fst (Prod.fst b_4)))),Prod.fst (Prod.snd (Prod.snd (Prod.fst (Prod.fst (Prod.fst b_4))))),()),Prod.fst (Prod.snd (Prod.fst (Prod.fst b_4))),()) (Prod.fst (Prod.fst (Prod.fst b)),Prod.fst (Prod.snd (Prod.fst (Prod.fst b))),())) fun b_5↦br (bif !Prod.fst (Prod.fst b_5) then true else Prod.fst (Prod.snd (Prod.fst b_4)) != Prod.fst (Prod.snd (Prod.fst b))) (some ((false,()),())) (bindD (C_laws_toRelation D a0) fun b_6↦bindD (C_laws_eqRelation D ((Prod.fst (Prod.fst (Prod.fst (Prod.fst b_2))),Prod.fst (Prod.snd (Prod.fst (Prod.fst (Prod.fst b_2)))),Prod.fst (Prod.snd (Prod.snd (Prod.fst (Prod.fst (Prod.fst b_2))))),()),Prod.fst (Prod.snd (Prod.fst (Prod.fst b_2))),()) ((Prod.fst (Prod.fst (Prod.fst (Prod.fst b_6))),Prod.fst (Prod.snd (Prod.fst (Prod.fst (Prod.fst b_6)))),Prod.fst (Prod.snd (Prod.snd (Prod.fst (Prod.fst (Prod.fst b_6))))),()),Prod.fst (Prod.snd (Prod.fst (Prod.fst b_6))),())) fun b_7↦br (!Prod.fst (Prod.fst b_7)) (some ((false,()),())) (bindD (C_laws_toValueS D a1) fun b_8↦bindD (C_laws_eqValueS D (Prod.fst (Prod.fst b_3)) (Prod.fst (Prod.fst b_8))) fun b_9↦br (!Prod.fst (Prod.fst b_9)) (some ((false,()),())) (bindD (C_laws_markRelation D ((Prod.fst (Prod.fst (Prod.fst (Prod.fst b_2))),Prod.fst (Prod.snd (Prod.fst (Prod.fst (Prod.fst b_2)))),Prod.fst (Prod.snd (Prod.snd (Prod.fst (Prod.fst (Prod.fst b_2))))),()),Prod.fst (Prod.snd (Prod.fst (Prod.fst b_2))),()) 1) fun b_10↦bindD (C_laws_markValueS D (Prod.fst (Prod.fst b_3)) (Prod.fst (Prod.fst b_10))) fun b_11↦br (decide (Prod.fst (Prod.fst b_11)<0)) (some ((false,()),())) (bindD (C_laws_eqRelation D ((Prod.fst (Prod.fst (Prod.fst (Prod.fst b_4))),Prod.fst (Prod.snd (Prod.fst (Prod.fst (Prod.fst b_4)))),Prod.fst (Prod.snd (Prod.snd (Prod.fst (Prod.fst (Prod.fst b_4))))),()),Prod.fst (Prod.snd (Prod.fst (Prod.fst b_4))),()) (Prod.fst (Prod.fst (Prod.fst b)),Prod.fst (Prod.snd (Prod.fst (Prod.fst b))),())) fun b_12↦br (bif !Prod.fst (Prod.fst b_12) then true else Prod.fst (Prod.snd (Prod.fst b_4)) != Prod.fst (Prod.snd (Prod.fst b))) (some ((false,()),())) (bindD (C_laws_markRelation D ((Prod.fst (Prod.fst (Prod.fst (Prod.fst b_4))),Prod.fst (Prod.snd (Prod.fst (Prod.fst (Prod.fst b_4)))),Prod.fst (Prod.snd (Prod.snd (Prod.fst (Prod.fst (Prod.fst b_4))))),()),Prod.fst (Prod.snd (Prod.fst (Prod.fst b_4))),()) 1) fun b_13↦bindD (C_laws_heldRelation D ((Prod.fst (Prod.fst (Prod.fst (Prod.snd b_13))),Prod.fst (Prod.snd (Prod.fst (Prod.fst (Prod.snd b_13)))),Prod.fst (Prod.snd (Prod.snd (Prod.fst (Prod.fst (Prod.snd b_13))))),()),Prod.fst (Prod.snd (Prod.fst (Prod.snd b_13))),()) 1) fun b_14↦br (decide (Prod.fst (Prod.fst b_14)<0)) (some ((false,()),())) (br (Prod.fst (Prod.fst b_14) != Prod.fst (Prod.fst b_13)) (some ((false,()),())) (bindD (C_laws_toRelation D a0) fun b_15↦bindD (C_laws_toValueS D a1) fun b_16↦bindD (C_impl_Replace D ((Prod.fst (Prod.fst (Prod.fst (Prod.fst b_15))),Prod.fst (Prod.snd (Prod.fst (Prod.fst (Prod.fst b_15)))),Prod.fst (Prod.snd (Prod.snd (Prod.fst (Prod.fst (Prod.fst b_15))))),()),Prod.fst (Prod.snd (Prod.fst (Prod.fst b_15))),()) (Prod.fst (Prod.fst b_16))) fun b_17↦bindD (C_laws_eqRelation D ((Prod.fst (Prod.fst (Prod.fst (Prod.fst b_17))),Prod.fst (Prod.snd (Prod.fst (Prod.fst (Prod.fst b_17)))),Prod.fst (Prod.snd (Prod.snd (Prod.fst (Prod.fst (Prod.fst b_17))))),()),Prod.fst (Prod.snd (Prod.fst (Prod.fst b_17))),()) (Prod.fst (Prod.fst (Prod.fst b)),Prod.fst (Prod.snd (Prod.fst (Prod.fst b))),())) fun b_18↦br (bif !Prod.fst (Prod.fst b_18) then true else Prod.fst (Prod.snd (Prod.fst b_17)) != Prod.fst (Prod.snd (Prod.fst b))) (some ((false,()),())) (bindD (C_laws_heldRelation D ((Prod.fst (Prod.fst (Prod.fst (Prod.snd b_13))),Prod.fst (Prod.snd (Prod.fst (Prod.fst (Prod.snd b_13)))),Prod.fst (Prod.snd (Prod.snd (Prod.fst (Prod.fst (Prod.snd b_13))))),()),Prod.fst (Prod.snd (Prod.fst (Prod.snd b_13))),()) 1) fun b↦br (decide (Prod.fst (Prod.fst b)<0)) (some ((false,()),())) (br (Prod.fst (Prod.fst b) != Prod.fst (Prod.fst b_13)) (some ((false,()),())) (some ((true,()),())))))))))))))
def F_laws_FnExactReplace (D:DX)(n:Nat) (a0:(tSch)×tRows×Unit) (a1:tVals):Option ((Bool×Unit)×Unit):=laws_FnExactReplace_e D n a0 a1
theorem E_laws_FnExactReplace (D:DX)(n:Nat) (a0:(tSch)×
  tRows×Unit) (a1:tVals):rfC funcTab D n 8 (a0,(a1,()))=F_laws_FnExactReplace D n a0 a1:=by kernel_rfl

def impl_RelOk_b0 (D:DX)(n:Nat) (go:tRows→Int→Int→(tSch)×tRows×Unit→Option ((Bool×Unit)×Unit)) (K0:Bool→(tSch)×tRows×Unit→Option ((Bool×Unit)×Unit)) (K1:(tSch)×tRows×Unit→Option ((Bool×Unit)×Unit)) (x0:tRows) (x1:Int) (x2:Int) (x3:(tSch)×tRows×Unit):Option ((Bool×Unit)×Unit):=br (decide (x2<x1)) (br (decide (0≤x2)&&decide (x2<(↑(List.length x0):Int))) (bindD (C_impl_RowOk D (Prod.fst x3) (List.getD x0 (Int.toNat x2) [])) fun b↦br (!Prod.fst (Prod.fst b)) (K0 false x3) (br (decide (x2>0)) (br (decide (0≤IntKind.wrap IntKind.i64 (x2 - 1))&&decide (IntKind.wrap IntKind.i64 (x2 - 1)<(↑(List.length (Prod.fst (Prod.snd x3))):Int))) (bindD (C_impl_KeyOfRow D (Prod.fst x3) (List.getD (Prod.fst (Prod.snd x3)) (Int.toNat (IntKind.wrap IntKind.i64 (x2 - 1))) [])) fun b↦bindD (C_impl_KeyOfRow D (Prod.fst x3) (List.getD x0 (Int.toNat x2) [])) fun b_1↦bindD (C_impl_TupleLess D (Prod.fst (Prod.fst b)) (Prod.fst (Prod.fst b_1))) fun b↦br (!Prod.fst (Prod.fst b)) (K0 false x3) (br (decide (0≤0)&&decide (0≤x2)&&decide (x2≤(↑(List.length (Prod.fst (Prod.snd x3))):Int))) (bindD (C_slices_ContainsFunc_impl_Value_impl_Value D (List.drop (Int.toNat 0) (List.take (Int.toNat x2) (Prod.fst (Prod.snd x3)))) (Clo.mk 80 [CapV.rptr (Ty.pair (Ty.pair (Ty.sl (Ty.pair Ty.str (Ty.pair (Ty.int IntKind.i64) (Ty.pair Ty.bool Ty.unit)))) (Ty.pair (Ty.sl (Ty.int IntKind.i64)) (Ty.pair (Ty.sl (Ty.pair Ty.str (Ty.pair (Ty.sl (Ty.int IntKind.i64)) (Ty.pair Ty.bool Ty.unit)))) Ty.unit))) (Ty.pair (Ty.sl (Ty.sl (Ty.pair (Ty.int IntKind.i64) (Ty.pair (Ty.int IntKind.i64) (Ty.pair Ty.str Ty.unit))))) Ty.unit)) x3,CapV.rptr (Ty.sl (Ty.pair (Ty.int IntKind.i64) (Ty.pair (Ty.int IntKind.i64) (Ty.pair Ty.str Ty.unit)))) (List.getD x0 (Int.toNat x2) [])])) fun b↦br (Prod.fst (Prod.fst b)) (K0 false x3) (go x0 x1 (IntKind.wrap IntKind.i64 (x2+1)) x3)) none)) none) (br (decide (0≤0)&&decide (0≤x2)&&decide (x2≤(↑(List.length (Prod.fst (Prod.snd x3))):Int))) (bindD (C_slices_ContainsFunc_impl_Value_impl_Value D (List.drop (Int.toNat 0) (List.take (Int.toNat x2) (Prod.fst (Prod.snd x3)))) (Clo.mk 80 [CapV.rptr (Ty.pair (Ty.pair (Ty.sl (Ty.pair Ty.str (Ty.pair (Ty.int IntKind.i64) (Ty.pair Ty.bool Ty.unit)))) (Ty.pair (Ty.sl (Ty.int IntKind.i64)) (Ty.pair (Ty.sl (Ty.pair Ty.str (Ty.pair (Ty.sl (Ty.int IntKind.i64)) (Ty.pair Ty.bool Ty.unit)))) Ty.unit))) (Ty.pair (Ty.sl (Ty.sl (Ty.pair (Ty.int IntKind.i64) (Ty.pair (Ty.int IntKind.i64) (Ty.pair Ty.str Ty.unit))))) Ty.unit)) x3,CapV.rptr (Ty.sl (Ty.pair (Ty.int IntKind.i64) (Ty.pair (Ty.int IntKind.i64) (Ty.pair Ty.str Ty.unit)))) (List.getD x0 (Int.toNat x2) [])])) fun b↦br (Prod.fst (Prod.fst b)) (K0 false x3) (go x0 x1 (IntKind.wrap IntKind.i64 (x2+1)) x3)) none))) none) (K1 x3)
def impl_RelOk_L0 (D:DX)(n:Nat) (K0:Bool→(tSch)×tRows×Unit→Option ((Bool×Unit)×Unit)) (K1:(tSch)×tRows×Unit→Option ((Bool×Unit)×Unit)):Nat→(tRows)→(Int)→(Int)→((tSch)×tRows×Unit)→Option ((Bool×Unit)×Unit) | 0=>(fun x0 x1 x2 x3=>none) | m+1=>(fun x0 x1 x2 x3=>impl_RelOk_b0 D n (impl_RelOk_L0 D n K0 K1 m) K0 K1 x0 x1 x2 x3)
def impl_RelOk_x0_0 (D:DX)(n:Nat) (v0_0:Bool) (v0_1:(tSch)×tRows×Unit):Option ((Bool×Unit)×Unit):=some ((v0_0,()),())
def impl_RelOk_x0_1 (D:DX)(n:Nat) (v1_0:(tSch)×tRows×Unit):Option ((Bool×Unit)×Unit):=bindD (C_impl_SchemaOk D (Prod.fst v1_0)) fun b↦some ((bif Prod.fst (Prod.fst b) then decide ((↑(List.length (Prod.fst (Prod.snd v1_0))):Int)≤12) else false,()),())
def impl_RelOk_LP0 (D:DX)(n:Nat):(tRows)→(Int)→(Int)→((tSch)×tRows×Unit)→Option ((Bool×Unit)×Unit):=(fun x0 x1 x2 x3=>impl_RelOk_L0 D n (fun v0_0 v0_1=>impl_RelOk_x0_0 D n v0_0 v0_1) (fun v1_0=>impl_RelOk_x0_1 D n v1_0) n x0 x1 x2 x3)
def impl_RelOk_e (D:DX)(n:Nat) (lp0:tRows→Int→Int→(tSch)×tRows×Unit→Option ((Bool×Unit)×Unit)) (a0:(tSch)×tRows×Unit):Option ((Bool×Unit)×Unit):=lp0 (Prod.fst (Prod.snd a0)) (↑(List.length (Prod.fst (Prod.snd a0))):Int) 0 a0
def F_impl_RelOk (D:DX)(n:Nat) (a0:(tSch)×tRows×Unit):Option ((Bool×Unit)×Unit):=impl_RelOk_e D n (impl_RelOk_LP0 D n) a0
def impl_RelOk_Q0 (x0:tRows) (x1:Int) (x2:Int) (x3:(tSch)×tRows×Unit):St:=stq 55 [(1,AV.addr 1 []),(6,AV.val (Ty.sl (Ty.sl yV)) x0),(7,avI x1),(8,avI x2)] [(1,Root.mk (Ty.pair yS (Ty.pair (Ty.sl (Ty.sl yV)) Ty.unit)) Mk.no x3 true)] 
def impl_RelOk_Q0_0 (v0_0:Bool) (v0_1:(tSch)×tRows×Unit):St:=stq 55 [(1,AV.addr 1 []),(2,AV.val Ty.bool v0_0)] [(1,Root.mk (Ty.pair yS (Ty.pair (Ty.sl (Ty.sl yV)) Ty.unit)) Mk.no v0_1 true)] 
def impl_RelOk_Q0_1 (v1_0:(tSch)×tRows×Unit):St:=stq 55 [(1,AV.addr 1 [])] [(1,Root.mk (Ty.pair yS (Ty.pair (Ty.sl (Ty.sl yV)) Ty.unit)) Mk.no v1_0 true)] 
theorem impl_RelOk_SB0 (D:DX)(n:Nat) (m:Nat) (K:Ex→St→Option (Out ctx 17)) (x0:tRows) (x1:Int) (x2:Int) (x3:(tSch)×
  tRows×Unit) :
  LQ funcTab D n 17 [.r,.l,.r,.l] (m+1) (impl_RelOk_Q0 x0 x1 x2 x3) K=impl_RelOk_b0 D n (fun x0 x1 x2 x3=>LQ funcTab D n 17 [.r,.l,.r,.l] m (impl_RelOk_Q0 x0 x1 x2 x3) K) (fun v0_0 v0_1=>K (Ex.ret) (impl_RelOk_Q0_0 v0_0 v0_1)) (fun v1_0=>K (Ex.exit 0) (impl_RelOk_Q0_1 v1_0)) x0 x1 x2 x3:=by kernel_rfl
theorem impl_RelOk_EL0 (D:DX)(n:Nat) (K:Ex→St→Option (Out ctx 17)):∀ (m:Nat) (x0:tRows) (x1:Int) (x2:Int) (x3:(tSch)×
  tRows×Unit),LQ funcTab D n 17 [.r,.l,.r,.l] m (impl_RelOk_Q0 x0 x1 x2 x3) K=impl_RelOk_L0 D n (fun v0_0 v0_1=>K (Ex.ret) (impl_RelOk_Q0_0 v0_0 v0_1)) (fun v1_0=>K (Ex.exit 0) (impl_RelOk_Q0_1 v1_0)) m x0 x1 x2 x3
  | 0,x0,x1,x2,x3=>LQ_zero ..
  | m+1,x0,x1,x2,x3=>by
    have ih:(fun x0 x1 x2 x3=>LQ funcTab D n 17 [.r,.l,.r,.l] m (impl_RelOk_Q0 x0 x1 x2 x3) K)=impl_RelOk_L0 D n (fun v0_0 v0_1=>K (Ex.ret) (impl_RelOk_Q0_0 v0_0 v0_1)) (fun v1_0=>K (Ex.exit 0) (impl_RelOk_Q0_1 v1_0)) m:=by funext x0 x1 x2 x3;exact impl_RelOk_EL0 D n K m x0 x1 x2 x3
    rw[impl_RelOk_SB0]
    rw[ih];rfl
theorem impl_RelOk_X0_0 (D:DX)(n:Nat) (v0_0:Bool) (v0_1:(tSch)×
  tRows×Unit) :
  (CQ funcTab D n 17 [] [.r,.l,.r,.l] (lastK funcTab 17)) (Ex.ret) (impl_RelOk_Q0_0 v0_0 v0_1)=impl_RelOk_x0_0 D n v0_0 v0_1:=by kernel_rfl
theorem impl_RelOk_X0_1 (D:DX)(n:Nat) (v1_0:(tSch)×
  tRows×Unit) :
  (CQ funcTab D n 17 [] [.r,.l,.r,.l] (lastK funcTab 17)) (Ex.exit 0) (impl_RelOk_Q0_1 v1_0)=impl_RelOk_x0_1 D n v1_0:=by kernel_rfl
theorem impl_RelOk_ELP0 (D:DX)(n:Nat) (x0:tRows) (x1:Int) (x2:Int) (x3:(tSch)×
  tRows×Unit) :
  LQ funcTab D n 17 [.r,.l,.r,.l] n (impl_RelOk_Q0 x0 x1 x2 x3) (CQ funcTab D n 17 [] [.r,.l,.r,.l] (lastK funcTab 17))=impl_RelOk_LP0 D n x0 x1 x2 x3:=by
  rw[impl_RelOk_EL0]
  simp only[impl_RelOk_X0_0,impl_RelOk_X0_1]
  rfl
theorem E_impl_RelOk (D:DX)(n:Nat) (a0:(tSch)×
  tRows×Unit):rfC funcTab D n 17 (a0,())=F_impl_RelOk D n a0:=by
  have h:rfC funcTab D n 17 (a0,())=impl_RelOk_e D n (fun x0 x1 x2 x3=>LQ funcTab D n 17 [.r,.l,.r,.l] n (impl_RelOk_Q0 x0 x1 x2 x3) (CQ funcTab D n 17 [] [.r,.l,.r,.l] (lastK funcTab 17))) a0:=by kernel_rfl
  rw[h]
  simp only[impl_RelOk_ELP0]
  rfl


def impl_KeyOfRow_e (D:DX)(n:Nat) (a0:tSch) (a1:tVals):Option ((tVals×Unit)×Unit):=bindD (C_impl_Project D a1 (Prod.fst (Prod.snd a0))) fun b↦some ((Prod.fst (Prod.fst b),()),())
def F_impl_KeyOfRow (D:DX)(n:Nat) (a0:tSch) (a1:tVals):Option ((tVals×Unit)×Unit):=impl_KeyOfRow_e D n a0 a1
theorem E_impl_KeyOfRow (D:DX)(n:Nat) (a0:tSch) (a1:tVals):rfC funcTab D n 23 (a0,(a1,()))=F_impl_KeyOfRow D n a0 a1:=by kernel_rfl

def impl_Replace_b0 (D:DX)(n:Nat) (go:tVals→Int→Int→Int→(tSch)×tRows×Unit→(tSch)×tRows×Unit→Option ((((tSch)×tRows×Unit)×Int×Unit)×Unit)) (K0:tVals→Int→Int→(tSch)×tRows×Unit→(tSch)×tRows×Unit→Option ((((tSch)×tRows×Unit)×Int×Unit)×Unit)) (K1:tVals→Int→(tSch)×tRows×Unit→(tSch)×tRows×Unit→Option ((((tSch)×tRows×Unit)×Int×Unit)×Unit)) (x0:tVals) (x1:Int) (x2:Int) (x3:Int) (x4:(tSch)×tRows×Unit) (x5:(tSch)×tRows×Unit):Option ((((tSch)×tRows×Unit)×Int×Unit)×Unit):=br (decide (x3<x2)) (br (decide (0≤x3)&&decide (x3<(↑(List.length (Prod.fst (Prod.snd x4))):Int))) (br (x3 != x1) (bindD (C_impl_clash D (Prod.fst (Prod.fst x4),Prod.fst (Prod.snd (Prod.fst x4)),Prod.fst (Prod.snd (Prod.snd (Prod.fst x4))),()) x0 (List.getD (Prod.fst (Prod.snd x4)) (Int.toNat x3) [])) fun b↦br (Prod.fst (Prod.fst b)) (K0 x0 3 x1 x4 ((Prod.fst (Prod.fst x4),Prod.fst (Prod.snd (Prod.fst x4)),Prod.fst (Prod.snd (Prod.snd (Prod.fst x4))),()),Prod.fst (Prod.snd x4),())) (go x0 x1 x2 (IntKind.wrap IntKind.i64 (x3+1)) x4 x5)) (go x0 x1 x2 (IntKind.wrap IntKind.i64 (x3+1)) x4 x5)) none) (K1 x0 x1 x4 x5)
def impl_Replace_L0 (D:DX)(n:Nat) (K0:tVals→Int→Int→(tSch)×tRows×Unit→(tSch)×tRows×Unit→Option ((((tSch)×tRows×Unit)×Int×Unit)×Unit)) (K1:tVals→Int→(tSch)×tRows×Unit→(tSch)×tRows×Unit→Option ((((tSch)×tRows×Unit)×Int×Unit)×Unit)):Nat→(tVals)→(Int)→(Int)→(Int)→((tSch)×tRows×Unit)→((tSch)×tRows×Unit)→Option ((((tSch)×tRows×Unit)×Int×Unit)×Unit) | 0=>(fun x0 x1 x2 x3 x4 x5=>none) | m+1=>(fun x0 x1 x2 x3 x4 x5=>impl_Replace_b0 D n (impl_Replace_L0 D n K0 K1 m) K0 K1 x0 x1 x2 x3 x4 x5)
def impl_Replace_x0_0 (D:DX)(n:Nat) (v0_0:tVals) (v0_1:Int) (v0_2:Int) (v0_3:(tSch)×tRows×Unit) (v0_4:(tSch)×tRows×Unit):Option ((((tSch)×tRows×Unit)×Int×Unit)×Unit):=some ((((Prod.fst (Prod.fst v0_4),Prod.fst (Prod.snd (Prod.fst v0_4)),Prod.fst (Prod.snd (Prod.snd (Prod.fst v0_4))),()),Prod.fst (Prod.snd v0_4),()),v0_1,()),())
def impl_Replace_x0_1 (D:DX)(n:Nat) (v1_0:tVals) (v1_1:Int) (v1_2:(tSch)×tRows×Unit) (v1_3:(tSch)×tRows×Unit):Option ((((tSch)×tRows×Unit)×Int×Unit)×Unit):=bindD (C_slices_Clone_impl_Value_impl_Value D v1_0) fun b↦br (decide (0≤v1_1)&&decide (v1_1<(↑(List.length (Prod.fst (Prod.snd v1_2))):Int))) (some ((((Prod.fst (Prod.fst v1_2),Prod.fst (Prod.snd (Prod.fst v1_2)),Prod.fst (Prod.snd (Prod.snd (Prod.fst v1_2))),()),List.set (Prod.fst (Prod.snd v1_2)) (Int.toNat v1_1) (Prod.fst (Prod.fst b)),()),0,()),())) none
def impl_Replace_LP0 (D:DX)(n:Nat):(tVals)→(Int)→(Int)→(Int)→((tSch)×tRows×Unit)→((tSch)×tRows×Unit)→Option ((((tSch)×tRows×Unit)×Int×Unit)×Unit):=(fun x0 x1 x2 x3 x4 x5=>impl_Replace_L0 D n (fun v0_0 v0_1 v0_2 v0_3 v0_4=>impl_Replace_x0_0 D n v0_0 v0_1 v0_2 v0_3 v0_4) (fun v1_0 v1_1 v1_2 v1_3=>impl_Replace_x0_1 D n v1_0 v1_1 v1_2 v1_3) n x0 x1 x2 x3 x4 x5)
def impl_Replace_e (D:DX)(n:Nat) (lp0:tVals→Int→Int→Int→(tSch)×tRows×Unit→(tSch)×tRows×Unit→Option ((((tSch)×tRows×Unit)×Int×Unit)×Unit)) (a0:(tSch)×tRows×Unit) (a1:tVals):Option ((((tSch)×tRows×Unit)×Int×Unit)×Unit):=bindD (C_impl_copyRelation D a0) fun b↦bindD (C_impl_RelOk D ((Prod.fst (Prod.fst (Prod.fst (Prod.fst b))),Prod.fst (Prod.snd (Prod.fst (Prod.fst (Prod.fst b)))),Prod.fst (Prod.snd (Prod.snd (Prod.fst (Prod.fst (Prod.fst b))))),()),Prod.fst (Prod.snd (Prod.fst (Prod.fst b))),())) fun b_1↦br (!Prod.fst (Prod.fst b_1)) (some ((((Prod.fst (Prod.fst (Prod.fst (Prod.fst b))),Prod.fst (Prod.snd (Prod.fst (Prod.fst (Prod.fst b)))),Prod.fst (Prod.snd (Prod.snd (Prod.fst (Prod.fst (Prod.fst b))))),()),Prod.fst (Prod.snd (Prod.fst (Prod.fst b))),()),1,()),())) (bindD (C_impl_RowOk D (Prod.fst (Prod.fst (Prod.fst (Prod.fst b))),Prod.fst (Prod.snd (Prod.fst (Prod.fst (Prod.fst b)))),Prod.fst (Prod.snd (Prod.snd (Prod.fst (Prod.fst (Prod.fst b))))),()) a1) fun b_2↦br (!Prod.fst (Prod.fst b_2)) (some ((((Prod.fst (Prod.fst (Prod.fst (Prod.fst b))),Prod.fst (Prod.snd (Prod.fst (Prod.fst (Prod.fst b)))),Prod.fst (Prod.snd (Prod.snd (Prod.fst (Prod.fst (Prod.fst b))))),()),Prod.fst (Prod.snd (Prod.fst (Prod.fst b))),()),1,()),())) (bindD (C_impl_KeyOfRow D (Prod.fst (Prod.fst (Prod.fst (Prod.fst b))),Prod.fst (Prod.snd (Prod.fst (Prod.fst (Prod.fst b)))),Prod.fst (Prod.snd (Prod.snd (Prod.fst (Prod.fst (Prod.fst b))))),()) a1) fun b_3↦bindD (C_impl_keyAt D ((Prod.fst (Prod.fst (Prod.fst (Prod.fst b))),Prod.fst (Prod.snd (Prod.fst (Prod.fst (Prod.fst b)))),Prod.fst (Prod.snd (Prod.snd (Prod.fst (Prod.fst (Prod.fst b))))),()),Prod.fst (Prod.snd (Prod.fst (Prod.fst b))),()) (Prod.fst (Prod.fst b_3))) fun b_4↦br (decide (Prod.fst (Prod.fst b_4)<0)) (some ((((Prod.fst (Prod.fst (Prod.fst (Prod.fst b))),Prod.fst (Prod.snd (Prod.fst (Prod.fst (Prod.fst b)))),Prod.fst (Prod.snd (Prod.snd (Prod.fst (Prod.fst (Prod.fst b))))),()),Prod.fst (Prod.snd (Prod.fst (Prod.fst b))),()),4,()),())) (lp0 a1 (Prod.fst (Prod.fst b_4)) (↑(List.length (Prod.fst (Prod.snd (Prod.fst (Prod.fst b))))):Int) 0 ((Prod.fst (Prod.fst (Prod.fst (Prod.fst b))),Prod.fst (Prod.snd (Prod.fst (Prod.fst (Prod.fst b)))),Prod.fst (Prod.snd (Prod.snd (Prod.fst (Prod.fst (Prod.fst b))))),()),Prod.fst (Prod.snd (Prod.fst (Prod.fst b))),()) (([],[],[],()),[],()))))
def F_impl_Replace (D:DX)(n:Nat) (a0:(tSch)×tRows×Unit) (a1:tVals):Option ((((tSch)×tRows×Unit)×Int×Unit)×Unit):=impl_Replace_e D n (impl_Replace_LP0 D n) a0 a1
def impl_Replace_Q0 (x0:tVals) (x1:Int) (x2:Int) (x3:Int) (x4:(tSch)×tRows×Unit) (x5:(tSch)×tRows×Unit):St:=stq 58 [(1,AV.val (Ty.sl yV) x0),(2,AV.addr 2 []),(4,AV.addr 4 []),(6,avI x1),(32,AV.brw 2 [Stp.snd,Stp.fst] 0),(33,avI x2),(34,avI x3)] [(2,Root.mk (Ty.pair yS (Ty.pair (Ty.sl (Ty.sl yV)) Ty.unit)) (Mk.pr (Mk.pr (Mk.own 0 (Mk.pr Mk.no (Mk.pr Mk.no (Mk.pr Mk.no Mk.no)))) (Mk.pr (Mk.own 0 Mk.no) (Mk.pr (Mk.own 0 (Mk.pr Mk.no (Mk.pr (Mk.own 0 Mk.no) (Mk.pr Mk.no Mk.no)))) Mk.no))) (Mk.pr (Mk.own 0 (Mk.own 0 (Mk.pr Mk.no (Mk.pr Mk.no (Mk.pr Mk.no Mk.no))))) Mk.no)) x4 true),(4,Root.mk (Ty.pair yS (Ty.pair (Ty.sl (Ty.sl yV)) Ty.unit)) (Mk.pr (Mk.pr (Mk.own 0 (Mk.pr Mk.no (Mk.pr Mk.no (Mk.pr Mk.no Mk.no)))) (Mk.pr (Mk.own 0 Mk.no) (Mk.pr (Mk.own 0 (Mk.pr Mk.no (Mk.pr (Mk.own 0 Mk.no) (Mk.pr Mk.no Mk.no)))) Mk.no))) (Mk.pr (Mk.own 0 (Mk.own 0 (Mk.pr Mk.no (Mk.pr Mk.no (Mk.pr Mk.no Mk.no))))) Mk.no)) x5 true)] 
def impl_Replace_Q0_0 (v0_0:tVals) (v0_1:Int) (v0_2:Int) (v0_3:(tSch)×tRows×Unit) (v0_4:(tSch)×tRows×Unit):St:=stq 58 [(1,AV.val (Ty.sl yV) v0_0),(2,AV.addr 2 []),(4,AV.addr 4 []),(5,avI v0_1),(6,avI v0_2)] [(2,Root.mk (Ty.pair yS (Ty.pair (Ty.sl (Ty.sl yV)) Ty.unit)) (Mk.pr (Mk.pr Mk.gone (Mk.pr Mk.gone (Mk.pr Mk.gone Mk.no))) (Mk.pr Mk.gone Mk.no)) v0_3 true),(4,Root.mk (Ty.pair yS (Ty.pair (Ty.sl (Ty.sl yV)) Ty.unit)) (Mk.pr (Mk.pr (Mk.own 0 (Mk.pr Mk.no (Mk.pr Mk.no (Mk.pr Mk.no Mk.no)))) (Mk.pr (Mk.own 0 Mk.no) (Mk.pr (Mk.own 0 (Mk.pr Mk.no (Mk.pr (Mk.own 0 Mk.no) (Mk.pr Mk.no Mk.no)))) Mk.no))) (Mk.pr (Mk.own 0 (Mk.own 0 (Mk.pr Mk.no (Mk.pr Mk.no (Mk.pr Mk.no Mk.no))))) Mk.no)) v0_4 true)] 
def impl_Replace_Q0_1 (v1_0:tVals) (v1_1:Int) (v1_2:(tSch)×tRows×Unit) (v1_3:(tSch)×tRows×Unit):St:=stq 58 [(1,AV.val (Ty.sl yV) v1_0),(2,AV.addr 2 []),(4,AV.addr 4 []),(6,avI v1_1)] [(2,Root.mk (Ty.pair yS (Ty.pair (Ty.sl (Ty.sl yV)) Ty.unit)) (Mk.pr (Mk.pr (Mk.own 0 (Mk.pr Mk.no (Mk.pr Mk.no (Mk.pr Mk.no Mk.no)))) (Mk.pr (Mk.own 0 Mk.no) (Mk.pr (Mk.own 0 (Mk.pr Mk.no (Mk.pr (Mk.own 0 Mk.no) (Mk.pr Mk.no Mk.no)))) Mk.no))) (Mk.pr (Mk.own 0 (Mk.own 0 (Mk.pr Mk.no (Mk.pr Mk.no (Mk.pr Mk.no Mk.no))))) Mk.no)) v1_2 true),(4,Root.mk (Ty.pair yS (Ty.pair (Ty.sl (Ty.sl yV)) Ty.unit)) (Mk.pr (Mk.pr (Mk.own 0 (Mk.pr Mk.no (Mk.pr Mk.no (Mk.pr Mk.no Mk.no)))) (Mk.pr (Mk.own 0 Mk.no) (Mk.pr (Mk.own 0 (Mk.pr Mk.no (Mk.pr (Mk.own 0 Mk.no) (Mk.pr Mk.no Mk.no)))) Mk.no))) (Mk.pr (Mk.own 0 (Mk.own 0 (Mk.pr Mk.no (Mk.pr Mk.no (Mk.pr Mk.no Mk.no))))) Mk.no)) v1_3 true)] 
theorem impl_Replace_SB0 (D:DX)(n:Nat) (m:Nat) (K:Ex→St→Option (Out ctx 26)) (x0:tVals) (x1:Int) (x2:Int) (x3:Int) (x4:(tSch)×
  tRows×Unit) (x5:(tSch)×
  tRows×Unit) :
  LQ funcTab D n 26 [.r,.r,.r,.r,.r,.l,.r,.l] (m+1) (impl_Replace_Q0 x0 x1 x2 x3 x4 x5) K=impl_Replace_b0 D n (fun x0 x1 x2 x3 x4 x5=>LQ funcTab D n 26 [.r,.r,.r,.r,.r,.l,.r,.l] m (impl_Replace_Q0 x0 x1 x2 x3 x4 x5) K) (fun v0_0 v0_1 v0_2 v0_3 v0_4=>K (Ex.ret) (impl_Replace_Q0_0 v0_0 v0_1 v0_2 v0_3 v0_4)) (fun v1_0 v1_1 v1_2 v1_3=>K (Ex.exit 0) (impl_Replace_Q0_1 v1_0 v1_1 v1_2 v1_3)) x0 x1 x2 x3 x4 x5:=by kernel_rfl
theorem impl_Replace_EL0 (D:DX)(n:Nat) (K:Ex→St→Option (Out ctx 26)):∀ (m:Nat) (x0:tVals) (x1:Int) (x2:Int) (x3:Int) (x4:(tSch)×
  tRows×Unit) (x5:(tSch)×
  tRows×Unit),LQ funcTab D n 26 [.r,.r,.r,.r,.r,.l,.r,.l] m (impl_Replace_Q0 x0 x1 x2 x3 x4 x5) K=impl_Replace_L0 D n (fun v0_0 v0_1 v0_2 v0_3 v0_4=>K (Ex.ret) (impl_Replace_Q0_0 v0_0 v0_1 v0_2 v0_3 v0_4)) (fun v1_0 v1_1 v1_2 v1_3=>K (Ex.exit 0) (impl_Replace_Q0_1 v1_0 v1_1 v1_2 v1_3)) m x0 x1 x2 x3 x4 x5
  | 0,x0,x1,x2,x3,x4,x5=>LQ_zero ..
  | m+1,x0,x1,x2,x3,x4,x5=>by
    have ih:(fun x0 x1 x2 x3 x4 x5=>LQ funcTab D n 26 [.r,.r,.r,.r,.r,.l,.r,.l] m (impl_Replace_Q0 x0 x1 x2 x3 x4 x5) K)=impl_Replace_L0 D n (fun v0_0 v0_1 v0_2 v0_3 v0_4=>K (Ex.ret) (impl_Replace_Q0_0 v0_0 v0_1 v0_2 v0_3 v0_4)) (fun v1_0 v1_1 v1_2 v1_3=>K (Ex.exit 0) (impl_Replace_Q0_1 v1_0 v1_1 v1_2 v1_3)) m:=by funext x0 x1 x2 x3 x4 x5;exact impl_Replace_EL0 D n K m x0 x1 x2 x3 x4 x5
    rw[impl_Replace_SB0]
    rw[ih];rfl
theorem impl_Replace_X0_0 (D:DX)(n:Nat) (v0_0:tVals) (v0_1:Int) (v0_2:Int) (v0_3:(tSch)×
  tRows×Unit) (v0_4:(tSch)×
  tRows×Unit) :
  (CQ funcTab D n 26 [] [.r,.r,.r,.r,.r,.l,.r,.l] (lastK funcTab 26)) (Ex.ret) (impl_Replace_Q0_0 v0_0 v0_1 v0_2 v0_3 v0_4)=impl_Replace_x0_0 D n v0_0 v0_1 v0_2 v0_3 v0_4:=by kernel_rfl
theorem impl_Replace_X0_1 (D:DX)(n:Nat) (v1_0:tVals) (v1_1:Int) (v1_2:(tSch)×
  tRows×Unit) (v1_3:(tSch)×
  tRows×Unit) :
  (CQ funcTab D n 26 [] [.r,.r,.r,.r,.r,.l,.r,.l] (lastK funcTab 26)) (Ex.exit 0) (impl_Replace_Q0_1 v1_0 v1_1 v1_2 v1_3)=impl_Replace_x0_1 D n v1_0 v1_1 v1_2 v1_3:=by kernel_rfl
theorem impl_Replace_ELP0 (D:DX)(n:Nat) (x0:tVals) (x1:Int) (x2:Int) (x3:Int) (x4:(tSch)×
  tRows×Unit) (x5:(tSch)×
  tRows×Unit) :
  LQ funcTab D n 26 [.r,.r,.r,.r,.r,.l,.r,.l] n (impl_Replace_Q0 x0 x1 x2 x3 x4 x5) (CQ funcTab D n 26 [] [.r,.r,.r,.r,.r,.l,.r,.l] (lastK funcTab 26))=impl_Replace_LP0 D n x0 x1 x2 x3 x4 x5:=by
  rw[impl_Replace_EL0]
  simp only[impl_Replace_X0_0,impl_Replace_X0_1]
  rfl
theorem E_impl_Replace (D:DX)(n:Nat) (a0:(tSch)×
  tRows×Unit) (a1:tVals):rfC funcTab D n 26 (a0,(a1,()))=F_impl_Replace D n a0 a1:=by
  have h:rfC funcTab D n 26 (a0,(a1,()))=impl_Replace_e D n (fun x0 x1 x2 x3 x4 x5=>LQ funcTab D n 26 [.r,.r,.r,.r,.r,.l,.r,.l] n (impl_Replace_Q0 x0 x1 x2 x3 x4 x5) (CQ funcTab D n 26 [] [.r,.r,.r,.r,.r,.l,.r,.l] (lastK funcTab 26))) a0 a1:=by kernel_rfl
  rw[h]
  simp only[impl_Replace_ELP0]
  rfl

def spec_Replace_e (D:DX)(n:Nat) (a0:(tSch)×tRows×Unit) (a1:tVals):Option ((((tSch)×tRows×Unit)×Int×Unit)×Unit):=bindD (C_spec_l21Copy D a0) fun b↦bindD (C_spec_RelOk D a0) fun b_1↦br (!Prod.fst (Prod.fst b_1)) (some ((((Prod.fst (Prod.fst (Prod.fst (Prod.fst b))),Prod.fst (Prod.snd (Prod.fst (Prod.fst (Prod.fst b)))),Prod.fst (Prod.snd (Prod.snd (Prod.fst (Prod.fst (Prod.fst b))))),()),Prod.fst (Prod.snd (Prod.fst (Prod.fst b))),()),1,()),())) (bindD (C_spec_RowOk D (Prod.fst a0) a1) fun b_2↦br (!Prod.fst (Prod.fst b_2)) (some ((((Prod.fst (Prod.fst (Prod.fst (Prod.fst b))),Prod.fst (Prod.snd (Prod.fst (Prod.fst (Prod.fst b)))),Prod.fst (Prod.snd (Prod.snd (Prod.fst (Prod.fst (Prod.fst b))))),()),Prod.fst (Prod.snd (Prod.fst (Prod.fst b))),()),1,()),())) (bindD (C_spec_KeyOfRow D (Prod.fst a0) a1) fun b_3↦bindD (C_spec_l21At D a0 (Prod.fst (Prod.fst b_3))) fun b_4↦br (decide (Prod.fst (Prod.fst b_4)<0)) (some ((((Prod.fst (Prod.fst (Prod.fst (Prod.fst b))),Prod.fst (Prod.snd (Prod.fst (Prod.fst (Prod.fst b)))),Prod.fst (Prod.snd (Prod.snd (Prod.fst (Prod.fst (Prod.fst b))))),()),Prod.fst (Prod.snd (Prod.fst (Prod.fst b))),()),4,()),())) (bindD (C_spec_l21Others D a0 a1 (Prod.fst (Prod.fst b_4))) fun b_5↦br (Prod.fst (Prod.fst b_5)) (some ((((Prod.fst (Prod.fst (Prod.fst (Prod.fst b))),Prod.fst (Prod.snd (Prod.fst (Prod.fst (Prod.fst b)))),Prod.fst (Prod.snd (Prod.snd (Prod.fst (Prod.fst (Prod.fst b))))),()),Prod.fst (Prod.snd (Prod.fst (Prod.fst b))),()),3,()),())) (br (decide (0+List.length a1≤bound)) (br (decide (0≤Prod.fst (Prod.fst b_4))&&decide (Prod.fst (Prod.fst b_4)<(↑(List.length (Prod.fst (Prod.snd (Prod.fst (Prod.fst b))))):Int))) (some ((((Prod.fst (Prod.fst (Prod.fst (Prod.fst b))),Prod.fst (Prod.snd (Prod.fst (Prod.fst (Prod.fst b)))),Prod.fst (Prod.snd (Prod.snd (Prod.fst (Prod.fst (Prod.fst b))))),()),List.set (Prod.fst (Prod.snd (Prod.fst (Prod.fst b)))) (Int.toNat (Prod.fst (Prod.fst b_4))) ([]++a1),()),0,()),())) none) none))))
def F_spec_Replace (D:DX)(n:Nat) (a0:(tSch)×tRows×Unit) (a1:tVals):Option ((((tSch)×tRows×Unit)×Int×Unit)×Unit):=spec_Replace_e D n a0 a1
theorem E_spec_Replace (D:DX)(n:Nat) (a0:(tSch)×
  tRows×Unit) (a1:tVals):rfC funcTab D n 32 (a0,(a1,()))=F_spec_Replace D n a0 a1:=by kernel_rfl




def spec_RelOk_b1 (D:DX)(n:Nat) (go:Int→Int→(tSch)×tRows×Unit→Option ((Bool×Unit)×Unit)) (K0:Bool→Int→(tSch)×tRows×Unit→Option ((Bool×Unit)×Unit)) (K1:Int→(tSch)×tRows×Unit→Option ((Bool×Unit)×Unit)) (x1_0:Int) (x1_1:Int) (x1_2:(tSch)×tRows×Unit):Option ((Bool×Unit)×Unit):=br (decide (x1_1<x1_0)) (br (decide (0≤x1_1)&&decide (x1_1<(↑(List.length (Prod.fst (Prod.snd x1_2))):Int))) (br (decide (0≤x1_0)&&decide (x1_0<(↑(List.length (Prod.fst (Prod.snd x1_2))):Int))) (bindD (C_spec_l21Clash D (Prod.fst x1_2) (List.getD (Prod.fst (Prod.snd x1_2)) (Int.toNat x1_1) []) (List.getD (Prod.fst (Prod.snd x1_2)) (Int.toNat x1_0) [])) fun b↦br (Prod.fst (Prod.fst b)) (K0 false x1_0 x1_2) (go x1_0 (IntKind.wrap IntKind.i64 (x1_1+1)) x1_2)) none) none) (K1 x1_0 x1_2)
def spec_RelOk_L1 (D:DX)(n:Nat) (K0:Bool→Int→(tSch)×tRows×Unit→Option ((Bool×Unit)×Unit)) (K1:Int→(tSch)×tRows×Unit→Option ((Bool×Unit)×Unit)):Nat→(Int)→(Int)→((tSch)×tRows×Unit)→Option ((Bool×Unit)×Unit) | 0=>(fun x1_0 x1_1 x1_2=>none) | m+1=>(fun x1_0 x1_1 x1_2=>spec_RelOk_b1 D n (spec_RelOk_L1 D n K0 K1 m) K0 K1 x1_0 x1_1 x1_2)
def spec_RelOk_x1_0 (D:DX)(n:Nat) (go:Int→(tSch)×tRows×Unit→Option ((Bool×Unit)×Unit)) (K0:Bool→(tSch)×tRows×Unit→Option ((Bool×Unit)×Unit)) (K1:(tSch)×tRows×Unit→Option ((Bool×Unit)×Unit)) (v0_0:Bool) (v0_1:Int) (v0_2:(tSch)×tRows×Unit):Option ((Bool×Unit)×Unit):=K0 v0_0 v0_2
def spec_RelOk_x1_1 (D:DX)(n:Nat) (go:Int→(tSch)×tRows×Unit→Option ((Bool×Unit)×Unit)) (K0:Bool→(tSch)×tRows×Unit→Option ((Bool×Unit)×Unit)) (K1:(tSch)×tRows×Unit→Option ((Bool×Unit)×Unit)) (v1_0:Int) (v1_1:(tSch)×tRows×Unit):Option ((Bool×Unit)×Unit):=go (IntKind.wrap IntKind.i64 (v1_0+1)) v1_1
def spec_RelOk_LP1 (D:DX)(n:Nat) (go:Int→(tSch)×tRows×Unit→Option ((Bool×Unit)×Unit)) (K0:Bool→(tSch)×tRows×Unit→Option ((Bool×Unit)×Unit)) (K1:(tSch)×tRows×Unit→Option ((Bool×Unit)×Unit)):(Int)→(Int)→((tSch)×tRows×Unit)→Option ((Bool×Unit)×Unit):=(fun x1_0 x1_1 x1_2=>spec_RelOk_L1 D n (fun v0_0 v0_1 v0_2=>spec_RelOk_x1_0 D n go K0 K1 v0_0 v0_1 v0_2) (fun v1_0 v1_1=>spec_RelOk_x1_1 D n go K0 K1 v1_0 v1_1) n x1_0 x1_1 x1_2)
def spec_RelOk_b0 (D:DX)(n:Nat) (go:Int→(tSch)×tRows×Unit→Option ((Bool×Unit)×Unit)) (K0:Bool→(tSch)×tRows×Unit→Option ((Bool×Unit)×Unit)) (K1:(tSch)×tRows×Unit→Option ((Bool×Unit)×Unit)) (lp1:Int→Int→(tSch)×tRows×Unit→Option ((Bool×Unit)×Unit)) (x0:Int) (x1:(tSch)×tRows×Unit):Option ((Bool×Unit)×Unit):=br (decide (x0<(↑(List.length (Prod.fst (Prod.snd x1))):Int))) (br (decide (0≤x0)&&decide (x0<(↑(List.length (Prod.fst (Prod.snd x1))):Int))) (bindD (C_spec_RowOk D (Prod.fst x1) (List.getD (Prod.fst (Prod.snd x1)) (Int.toNat x0) [])) fun b↦br (!Prod.fst (Prod.fst b)) (K0 false x1) (br (decide (x0>0)) (br (decide (0≤IntKind.wrap IntKind.i64 (x0 - 1))&&decide (IntKind.wrap IntKind.i64 (x0 - 1)<(↑(List.length (Prod.fst (Prod.snd x1))):Int))) (bindD (C_spec_KeyOfRow D (Prod.fst x1) (List.getD (Prod.fst (Prod.snd x1)) (Int.toNat (IntKind.wrap IntKind.i64 (x0 - 1))) [])) fun b↦br (decide (0≤x0)&&decide (x0<(↑(List.length (Prod.fst (Prod.snd x1))):Int))) (bindD (C_spec_KeyOfRow D (Prod.fst x1) (List.getD (Prod.fst (Prod.snd x1)) (Int.toNat x0) [])) fun b_1↦bindD (C_spec_TupleLess D (Prod.fst (Prod.fst b)) (Prod.fst (Prod.fst b_1))) fun b↦br (!Prod.fst (Prod.fst b)) (K0 false x1) (lp1 x0 0 x1)) none) none) (lp1 x0 0 x1))) none) (K1 x1)
def spec_RelOk_L0 (D:DX)(n:Nat) (K0:Bool→(tSch)×tRows×Unit→Option ((Bool×Unit)×Unit)) (K1:(tSch)×tRows×Unit→Option ((Bool×Unit)×Unit)):Nat→(Int)→((tSch)×tRows×Unit)→Option ((Bool×Unit)×Unit) | 0=>(fun x0 x1=>none) | m+1=>(fun x0 x1=>spec_RelOk_b0 D n (spec_RelOk_L0 D n K0 K1 m) K0 K1 (spec_RelOk_LP1 D n (spec_RelOk_L0 D n K0 K1 m) K0 K1) x0 x1)
def spec_RelOk_x0_0 (D:DX)(n:Nat) (v0_0:Bool) (v0_1:(tSch)×tRows×Unit):Option ((Bool×Unit)×Unit):=some ((v0_0,()),())
def spec_RelOk_x0_1 (D:DX)(n:Nat) (v1_0:(tSch)×tRows×Unit):Option ((Bool×Unit)×Unit):=bindD (C_spec_SchemaOk D (Prod.fst v1_0)) fun b↦some ((bif Prod.fst (Prod.fst b) then decide ((↑(List.length (Prod.fst (Prod.snd v1_0))):Int)≤12) else false,()),())
def spec_RelOk_LP0 (D:DX)(n:Nat):(Int)→((tSch)×tRows×Unit)→Option ((Bool×Unit)×Unit):=(fun x0 x1=>spec_RelOk_L0 D n (fun v0_0 v0_1=>spec_RelOk_x0_0 D n v0_0 v0_1) (fun v1_0=>spec_RelOk_x0_1 D n v1_0) n x0 x1)
def spec_RelOk_e (D:DX)(n:Nat) (lp0:Int→(tSch)×tRows×Unit→Option ((Bool×Unit)×Unit)) (a0:(tSch)×tRows×Unit):Option ((Bool×Unit)×Unit):=lp0 0 a0
def F_spec_RelOk (D:DX)(n:Nat) (a0:(tSch)×tRows×Unit):Option ((Bool×Unit)×Unit):=spec_RelOk_e D n (spec_RelOk_LP0 D n) a0
def spec_RelOk_Q0 (x0:Int) (x1:(tSch)×tRows×Unit):St:=stq 73 [(1,AV.addr 1 []),(3,avI x0)] [(1,Root.mk (Ty.pair yS (Ty.pair (Ty.sl (Ty.sl yV)) Ty.unit)) Mk.no x1 true)] 
def spec_RelOk_Q0_0 (v0_0:Bool) (v0_1:(tSch)×tRows×Unit):St:=stq 73 [(1,AV.addr 1 []),(2,AV.val Ty.bool v0_0)] [(1,Root.mk (Ty.pair yS (Ty.pair (Ty.sl (Ty.sl yV)) Ty.unit)) Mk.no v0_1 true)] 
def spec_RelOk_Q0_1 (v1_0:(tSch)×tRows×Unit):St:=stq 73 [(1,AV.addr 1 [])] [(1,Root.mk (Ty.pair yS (Ty.pair (Ty.sl (Ty.sl yV)) Ty.unit)) Mk.no v1_0 true)] 
def spec_RelOk_Q1 (x1_0:Int) (x1_1:Int) (x1_2:(tSch)×tRows×Unit):St:=stq 73 [(1,AV.addr 1 []),(3,avI x1_0),(4,avI x1_1)] [(1,Root.mk (Ty.pair yS (Ty.pair (Ty.sl (Ty.sl yV)) Ty.unit)) Mk.no x1_2 true)] 
def spec_RelOk_Q1_0 (v0_0:Bool) (v0_1:Int) (v0_2:(tSch)×tRows×Unit):St:=stq 73 [(1,AV.addr 1 []),(2,AV.val Ty.bool v0_0),(3,avI v0_1)] [(1,Root.mk (Ty.pair yS (Ty.pair (Ty.sl (Ty.sl yV)) Ty.unit)) Mk.no v0_2 true)] 
def spec_RelOk_Q1_1 (v1_0:Int) (v1_1:(tSch)×tRows×Unit):St:=stq 73 [(1,AV.addr 1 []),(3,avI v1_0)] [(1,Root.mk (Ty.pair yS (Ty.pair (Ty.sl (Ty.sl yV)) Ty.unit)) Mk.no v1_1 true)] 
theorem spec_RelOk_SB1 (D:DX)(n:Nat) (m:Nat) (K:Ex→St→Option (Out ctx 41)) (x1_0:Int) (x1_1:Int) (x1_2:(tSch)×
  tRows×Unit) :
  LQ funcTab D n 41 [.r,.l,.r,.l,.l,.r,.l,.l,.r,.r,.l] (m+1) (spec_RelOk_Q1 x1_0 x1_1 x1_2) K=spec_RelOk_b1 D n (fun x1_0 x1_1 x1_2=>LQ funcTab D n 41 [.r,.l,.r,.l,.l,.r,.l,.l,.r,.r,.l] m (spec_RelOk_Q1 x1_0 x1_1 x1_2) K) (fun v0_0 v0_1 v0_2=>K (Ex.ret) (spec_RelOk_Q1_0 v0_0 v0_1 v0_2)) (fun v1_0 v1_1=>K (Ex.exit 2) (spec_RelOk_Q1_1 v1_0 v1_1)) x1_0 x1_1 x1_2:=by kernel_rfl
theorem spec_RelOk_EL1 (D:DX)(n:Nat) (K:Ex→St→Option (Out ctx 41)):∀ (m:Nat) (x1_0:Int) (x1_1:Int) (x1_2:(tSch)×
  tRows×Unit),LQ funcTab D n 41 [.r,.l,.r,.l,.l,.r,.l,.l,.r,.r,.l] m (spec_RelOk_Q1 x1_0 x1_1 x1_2) K=spec_RelOk_L1 D n (fun v0_0 v0_1 v0_2=>K (Ex.ret) (spec_RelOk_Q1_0 v0_0 v0_1 v0_2)) (fun v1_0 v1_1=>K (Ex.exit 2) (spec_RelOk_Q1_1 v1_0 v1_1)) m x1_0 x1_1 x1_2
  | 0,x1_0,x1_1,x1_2=>LQ_zero ..
  | m+1,x1_0,x1_1,x1_2=>by
    have ih:(fun x1_0 x1_1 x1_2=>LQ funcTab D n 41 [.r,.l,.r,.l,.l,.r,.l,.l,.r,.r,.l] m (spec_RelOk_Q1 x1_0 x1_1 x1_2) K)=spec_RelOk_L1 D n (fun v0_0 v0_1 v0_2=>K (Ex.ret) (spec_RelOk_Q1_0 v0_0 v0_1 v0_2)) (fun v1_0 v1_1=>K (Ex.exit 2) (spec_RelOk_Q1_1 v1_0 v1_1)) m:=by funext x1_0 x1_1 x1_2;exact spec_RelOk_EL1 D n K m x1_0 x1_1 x1_2
    rw[spec_RelOk_SB1]
    rw[ih];rfl
theorem spec_RelOk_X1_0 (D:DX)(n:Nat) (m:Nat) (K:Ex→St→Option (Out ctx 41)) (v0_0:Bool) (v0_1:Int) (v0_2:(tSch)×
  tRows×Unit) :
  (CQ funcTab D n 41 [.r,.l,.r,.l,.l] [.r,.l,.l,.r,.r,.l] (LK funcTab D n 41 [.r,.l,.r,.l] m K)) (Ex.ret) (spec_RelOk_Q1_0 v0_0 v0_1 v0_2)=spec_RelOk_x1_0 D n (fun x0 x1=>LQ funcTab D n 41 [.r,.l,.r,.l] m (spec_RelOk_Q0 x0 x1) K) (fun v0_0 v0_1=>K (Ex.ret) (spec_RelOk_Q0_0 v0_0 v0_1)) (fun v1_0=>K (Ex.exit 0) (spec_RelOk_Q0_1 v1_0)) v0_0 v0_1 v0_2:=by kernel_rfl
theorem spec_RelOk_X1_1 (D:DX)(n:Nat) (m:Nat) (K:Ex→St→Option (Out ctx 41)) (v1_0:Int) (v1_1:(tSch)×
  tRows×Unit) :
  (CQ funcTab D n 41 [.r,.l,.r,.l,.l] [.r,.l,.l,.r,.r,.l] (LK funcTab D n 41 [.r,.l,.r,.l] m K)) (Ex.exit 2) (spec_RelOk_Q1_1 v1_0 v1_1)=spec_RelOk_x1_1 D n (fun x0 x1=>LQ funcTab D n 41 [.r,.l,.r,.l] m (spec_RelOk_Q0 x0 x1) K) (fun v0_0 v0_1=>K (Ex.ret) (spec_RelOk_Q0_0 v0_0 v0_1)) (fun v1_0=>K (Ex.exit 0) (spec_RelOk_Q0_1 v1_0)) v1_0 v1_1:=by kernel_rfl
theorem spec_RelOk_ELP1 (D:DX)(n:Nat) (m:Nat) (K:Ex→St→Option (Out ctx 41)) (x1_0:Int) (x1_1:Int) (x1_2:(tSch)×
  tRows×Unit) :
  LQ funcTab D n 41 [.r,.l,.r,.l,.l,.r,.l,.l,.r,.r,.l] n (spec_RelOk_Q1 x1_0 x1_1 x1_2) (CQ funcTab D n 41 [.r,.l,.r,.l,.l] [.r,.l,.l,.r,.r,.l] (LK funcTab D n 41 [.r,.l,.r,.l] m K))=spec_RelOk_LP1 D n (fun x0 x1=>LQ funcTab D n 41 [.r,.l,.r,.l] m (spec_RelOk_Q0 x0 x1) K) (fun v0_0 v0_1=>K (Ex.ret) (spec_RelOk_Q0_0 v0_0 v0_1)) (fun v1_0=>K (Ex.exit 0) (spec_RelOk_Q0_1 v1_0)) x1_0 x1_1 x1_2:=by
  rw[spec_RelOk_EL1]
  simp only[spec_RelOk_X1_0,spec_RelOk_X1_1]
  rfl
theorem spec_RelOk_SB0 (D:DX)(n:Nat) (m:Nat) (K:Ex→St→Option (Out ctx 41)) (x0:Int) (x1:(tSch)×
  tRows×Unit) :
  LQ funcTab D n 41 [.r,.l,.r,.l] (m+1) (spec_RelOk_Q0 x0 x1) K=spec_RelOk_b0 D n (fun x0 x1=>LQ funcTab D n 41 [.r,.l,.r,.l] m (spec_RelOk_Q0 x0 x1) K) (fun v0_0 v0_1=>K (Ex.ret) (spec_RelOk_Q0_0 v0_0 v0_1)) (fun v1_0=>K (Ex.exit 0) (spec_RelOk_Q0_1 v1_0)) (fun x1_0 x1_1 x1_2=>LQ funcTab D n 41 [.r,.l,.r,.l,.l,.r,.l,.l,.r,.r,.l] n (spec_RelOk_Q1 x1_0 x1_1 x1_2) (CQ funcTab D n 41 [.r,.l,.r,.l,.l] [.r,.l,.l,.r,.r,.l] (LK funcTab D n 41 [.r,.l,.r,.l] m K))) x0 x1:=by kernel_rfl
theorem spec_RelOk_EL0 (D:DX)(n:Nat) (K:Ex→St→Option (Out ctx 41)):∀ (m:Nat) (x0:Int) (x1:(tSch)×
  tRows×Unit),LQ funcTab D n 41 [.r,.l,.r,.l] m (spec_RelOk_Q0 x0 x1) K=spec_RelOk_L0 D n (fun v0_0 v0_1=>K (Ex.ret) (spec_RelOk_Q0_0 v0_0 v0_1)) (fun v1_0=>K (Ex.exit 0) (spec_RelOk_Q0_1 v1_0)) m x0 x1
  | 0,x0,x1=>LQ_zero ..
  | m+1,x0,x1=>by
    have ih:(fun x0 x1=>LQ funcTab D n 41 [.r,.l,.r,.l] m (spec_RelOk_Q0 x0 x1) K)=spec_RelOk_L0 D n (fun v0_0 v0_1=>K (Ex.ret) (spec_RelOk_Q0_0 v0_0 v0_1)) (fun v1_0=>K (Ex.exit 0) (spec_RelOk_Q0_1 v1_0)) m:=by funext x0 x1;exact spec_RelOk_EL0 D n K m x0 x1
    rw[spec_RelOk_SB0]
    simp only[spec_RelOk_ELP1]
    rw[ih];rfl
theorem spec_RelOk_X0_0 (D:DX)(n:Nat) (v0_0:Bool) (v0_1:(tSch)×
  tRows×Unit) :
  (CQ funcTab D n 41 [] [.r,.l,.r,.l] (lastK funcTab 41)) (Ex.ret) (spec_RelOk_Q0_0 v0_0 v0_1)=spec_RelOk_x0_0 D n v0_0 v0_1:=by kernel_rfl
theorem spec_RelOk_X0_1 (D:DX)(n:Nat) (v1_0:(tSch)×
  tRows×Unit) :
  (CQ funcTab D n 41 [] [.r,.l,.r,.l] (lastK funcTab 41)) (Ex.exit 0) (spec_RelOk_Q0_1 v1_0)=spec_RelOk_x0_1 D n v1_0:=by kernel_rfl
theorem spec_RelOk_ELP0 (D:DX)(n:Nat) (x0:Int) (x1:(tSch)×
  tRows×Unit) :
  LQ funcTab D n 41 [.r,.l,.r,.l] n (spec_RelOk_Q0 x0 x1) (CQ funcTab D n 41 [] [.r,.l,.r,.l] (lastK funcTab 41))=spec_RelOk_LP0 D n x0 x1:=by
  rw[spec_RelOk_EL0]
  simp only[spec_RelOk_X0_0,spec_RelOk_X0_1]
  rfl
theorem E_spec_RelOk (D:DX)(n:Nat) (a0:(tSch)×
  tRows×Unit):rfC funcTab D n 41 (a0,())=F_spec_RelOk D n a0:=by
  have h:rfC funcTab D n 41 (a0,())=spec_RelOk_e D n (fun x0 x1=>LQ funcTab D n 41 [.r,.l,.r,.l] n (spec_RelOk_Q0 x0 x1) (CQ funcTab D n 41 [] [.r,.l,.r,.l] (lastK funcTab 41))) a0:=by kernel_rfl
  rw[h]
  simp only[spec_RelOk_ELP0]
  rfl

def laws_szRelation_e (D:DX)(n:Nat) (a0:(tSch)×tRows×Unit) (a1:Int):Option ((Int×Unit)×Unit):=bindD (C_laws_szSchema D (Prod.fst a0) a1) fun b↦br (decide (Prod.fst (Prod.fst b)<0)) (some ((-1,()),())) (bindD (C_laws_szValueSS D (Prod.fst (Prod.snd a0)) (Prod.fst (Prod.fst b))) fun b↦br (decide (Prod.fst (Prod.fst b)<0)) (some ((-1,()),())) (some ((Prod.fst (Prod.fst b),()),())))
def F_laws_szRelation (D:DX)(n:Nat) (a0:(tSch)×tRows×Unit) (a1:Int):Option ((Int×Unit)×Unit):=laws_szRelation_e D n a0 a1
theorem E_laws_szRelation (D:DX)(n:Nat) (a0:(tSch)×
  tRows×Unit) (a1:Int):rfC funcTab D n 53 (a0,(a1,()))=F_laws_szRelation D n a0 a1:=by kernel_rfl

def laws_szValueS_b0 (D:DX)(n:Nat) (go:tVals→Int→Int→Option ((Int×Unit)×Unit)) (K0:Int→Int→Option ((Int×Unit)×Unit)) (K1:Int→Option ((Int×Unit)×Unit)) (x0:tVals) (x1:Int) (x2:Int):Option ((Int×Unit)×Unit):=br (decide (x2<(↑(List.length x0):Int))) (br (decide (0≤x2)&&decide (x2<(↑(List.length x0):Int))) (bindD (C_laws_szValue D (List.getD x0 (Int.toNat x2) (0,0,ByteArray.empty,())) x1) fun b↦br (decide (Prod.fst (Prod.fst b)<0)) (K0 (Prod.fst (Prod.fst b)) (-1)) (go x0 (Prod.fst (Prod.fst b)) (IntKind.wrap IntKind.i64 (x2+1)))) none) (K1 x1)
def laws_szValueS_L0 (D:DX)(n:Nat) (K0:Int→Int→Option ((Int×Unit)×Unit)) (K1:Int→Option ((Int×Unit)×Unit)):Nat→(tVals)→(Int)→(Int)→Option ((Int×Unit)×Unit) | 0=>(fun x0 x1 x2=>none) | m+1=>(fun x0 x1 x2=>laws_szValueS_b0 D n (laws_szValueS_L0 D n K0 K1 m) K0 K1 x0 x1 x2)
def laws_szValueS_x0_0 (D:DX)(n:Nat) (v0_0:Int) (v0_1:Int):Option ((Int×Unit)×Unit):=some ((v0_1,()),())
def laws_szValueS_x0_1 (D:DX)(n:Nat) (v1_0:Int):Option ((Int×Unit)×Unit):=some ((v1_0,()),())
def laws_szValueS_LP0 (D:DX)(n:Nat):(tVals)→(Int)→(Int)→Option ((Int×Unit)×Unit):=(fun x0 x1 x2=>laws_szValueS_L0 D n (fun v0_0 v0_1=>laws_szValueS_x0_0 D n v0_0 v0_1) (fun v1_0=>laws_szValueS_x0_1 D n v1_0) n x0 x1 x2)
def laws_szValueS_e (D:DX)(n:Nat) (lp0:tVals→Int→Int→Option ((Int×Unit)×Unit)) (a0:tVals) (a1:Int):Option ((Int×Unit)×Unit):=br (decide (IntKind.wrap IntKind.i64 (a1 - (↑(List.length a0):Int))<0)) (some ((-1,()),())) (lp0 a0 (IntKind.wrap IntKind.i64 (a1 - (↑(List.length a0):Int))) 0)
def F_laws_szValueS (D:DX)(n:Nat) (a0:tVals) (a1:Int):Option ((Int×Unit)×Unit):=laws_szValueS_e D n (laws_szValueS_LP0 D n) a0 a1
def laws_szValueS_Q0 (x0:tVals) (x1:Int) (x2:Int):St:=stq 27 [(0,AV.val (Ty.sl yV) x0),(1,avI x1),(5,avI x2)] [] 
def laws_szValueS_Q0_0 (v0_0:Int) (v0_1:Int):St:=stq 27 [(1,avI v0_0),(4,avI v0_1)] [] 
def laws_szValueS_Q0_1 (v1_0:Int):St:=stq 27 [(1,avI v1_0)] [] 
theorem laws_szValueS_SB0 (D:DX)(n:Nat) (m:Nat) (K:Ex→St→Option (Out ctx 54)) (x0:tVals) (x1:Int) (x2:Int) :
  LQ funcTab D n 54 [.r,.r,.r,.l,.r,.l] (m+1) (laws_szValueS_Q0 x0 x1 x2) K=laws_szValueS_b0 D n (fun x0 x1 x2=>LQ funcTab D n 54 [.r,.r,.r,.l,.r,.l] m (laws_szValueS_Q0 x0 x1 x2) K) (fun v0_0 v0_1=>K (Ex.ret) (laws_szValueS_Q0_0 v0_0 v0_1)) (fun v1_0=>K (Ex.exit 0) (laws_szValueS_Q0_1 v1_0)) x0 x1 x2:=by kernel_rfl
theorem laws_szValueS_EL0 (D:DX)(n:Nat) (K:Ex→St→Option (Out ctx 54)):∀ (m:Nat) (x0:tVals) (x1:Int) (x2:Int),LQ funcTab D n 54 [.r,.r,.r,.l,.r,.l] m (laws_szValueS_Q0 x0 x1 x2) K=laws_szValueS_L0 D n (fun v0_0 v0_1=>K (Ex.ret) (laws_szValueS_Q0_0 v0_0 v0_1)) (fun v1_0=>K (Ex.exit 0) (laws_szValueS_Q0_1 v1_0)) m x0 x1 x2
  | 0,x0,x1,x2=>LQ_zero ..
  | m+1,x0,x1,x2=>by
    have ih:(fun x0 x1 x2=>LQ funcTab D n 54 [.r,.r,.r,.l,.r,.l] m (laws_szValueS_Q0 x0 x1 x2) K)=laws_szValueS_L0 D n (fun v0_0 v0_1=>K (Ex.ret) (laws_szValueS_Q0_0 v0_0 v0_1)) (fun v1_0=>K (Ex.exit 0) (laws_szValueS_Q0_1 v1_0)) m:=by funext x0 x1 x2;exact laws_szValueS_EL0 D n K m x0 x1 x2
    rw[laws_szValueS_SB0]
    rw[ih];rfl
theorem laws_szValueS_X0_0 (D:DX)(n:Nat) (v0_0:Int) (v0_1:Int) :
  (CQ funcTab D n 54 [] [.r,.r,.r,.l,.r,.l] (lastK funcTab 54)) (Ex.ret) (laws_szValueS_Q0_0 v0_0 v0_1)=laws_szValueS_x0_0 D n v0_0 v0_1:=by kernel_rfl
theorem laws_szValueS_X0_1 (D:DX)(n:Nat) (v1_0:Int) :
  (CQ funcTab D n 54 [] [.r,.r,.r,.l,.r,.l] (lastK funcTab 54)) (Ex.exit 0) (laws_szValueS_Q0_1 v1_0)=laws_szValueS_x0_1 D n v1_0:=by kernel_rfl
theorem laws_szValueS_ELP0 (D:DX)(n:Nat) (x0:tVals) (x1:Int) (x2:Int) :
  LQ funcTab D n 54 [.r,.r,.r,.l,.r,.l] n (laws_szValueS_Q0 x0 x1 x2) (CQ funcTab D n 54 [] [.r,.r,.r,.l,.r,.l] (lastK funcTab 54))=laws_szValueS_LP0 D n x0 x1 x2:=by
  rw[laws_szValueS_EL0]
  simp only[laws_szValueS_X0_0,laws_szValueS_X0_1]
  rfl
theorem E_laws_szValueS (D:DX)(n:Nat) (a0:tVals) (a1:Int):rfC funcTab D n 54 (a0,(a1,()))=F_laws_szValueS D n a0 a1:=by
  have h:rfC funcTab D n 54 (a0,(a1,()))=laws_szValueS_e D n (fun x0 x1 x2=>LQ funcTab D n 54 [.r,.r,.r,.l,.r,.l] n (laws_szValueS_Q0 x0 x1 x2) (CQ funcTab D n 54 [] [.r,.r,.r,.l,.r,.l] (lastK funcTab 54))) a0 a1:=by kernel_rfl
  rw[h]
  simp only[laws_szValueS_ELP0]
  rfl

def laws_toRelation_e (D:DX)(n:Nat) (a0:(tSch)×tRows×Unit):Option ((((tSch)×tRows×Unit)×Unit)×Unit):=bindD (C_laws_toSchema D (Prod.fst a0)) fun b↦bindD (C_laws_toValueSS D (Prod.fst (Prod.snd a0))) fun b_1↦some ((((Prod.fst (Prod.fst (Prod.fst b)),Prod.fst (Prod.snd (Prod.fst (Prod.fst b))),Prod.fst (Prod.snd (Prod.snd (Prod.fst (Prod.fst b)))),()),Prod.fst (Prod.fst b_1),()),()),())
def F_laws_toRelation (D:DX)(n:Nat) (a0:(tSch)×tRows×Unit):Option ((((tSch)×tRows×Unit)×Unit)×Unit):=laws_toRelation_e D n a0
theorem E_laws_toRelation (D:DX)(n:Nat) (a0:(tSch)×
  tRows×Unit):rfC funcTab D n 55 (a0,())=F_laws_toRelation D n a0:=by kernel_rfl

def laws_toValueS_b0 (D:DX)(n:Nat) (go:tVals→Int→tVals→Option ((tVals×Unit)×Unit)) (K0:tVals→Option ((tVals×Unit)×Unit)) (x0:tVals) (x1:Int) (x2:tVals):Option ((tVals×Unit)×Unit):=br (decide (x1<(↑(List.length x0):Int))) (br (decide (0≤x1)&&decide (x1<(↑(List.length x0):Int))) (bindD (C_laws_toValue D (List.getD x0 (Int.toNat x1) (0,0,ByteArray.empty,()))) fun b↦br (decide (0≤x1)&&decide (x1<(↑(List.length x2):Int))) (go x0 (IntKind.wrap IntKind.i64 (x1+1)) (List.set x2 (Int.toNat x1) (Prod.fst (Prod.fst b)))) none) none) (K0 x2)
def laws_toValueS_L0 (D:DX)(n:Nat) (K0:tVals→Option ((tVals×Unit)×Unit)):Nat→(tVals)→(Int)→(tVals)→Option ((tVals×Unit)×Unit) | 0=>(fun x0 x1 x2=>none) | m+1=>(fun x0 x1 x2=>laws_toValueS_b0 D n (laws_toValueS_L0 D n K0 m) K0 x0 x1 x2)
def laws_toValueS_x0_0 (D:DX)(n:Nat) (v0_0:tVals):Option ((tVals×Unit)×Unit):=some ((v0_0,()),())
def laws_toValueS_LP0 (D:DX)(n:Nat):(tVals)→(Int)→(tVals)→Option ((tVals×Unit)×Unit):=(fun x0 x1 x2=>laws_toValueS_L0 D n (fun v0_0=>laws_toValueS_x0_0 D n v0_0) n x0 x1 x2)
def laws_toValueS_e (D:DX)(n:Nat) (lp0:tVals→Int→tVals→Option ((tVals×Unit)×Unit)) (a0:tVals):Option ((tVals×Unit)×Unit):=br (decide (0≤(↑(List.length a0):Int))&&decide ((↑(List.length a0):Int)≤(↑(List.length a0):Int))&&decide ((↑(List.length a0):Int)≤(↑bound:Int))) (lp0 a0 0 (List.replicate (Int.toNat (↑(List.length a0):Int)) (0,0,ByteArray.empty,()))) none
def F_laws_toValueS (D:DX)(n:Nat) (a0:tVals):Option ((tVals×Unit)×Unit):=laws_toValueS_e D n (laws_toValueS_LP0 D n) a0
def laws_toValueS_Q0 (x0:tVals) (x1:Int) (x2:tVals):St:=stq 23 [(0,AV.val (Ty.sl yV) x0),(3,AV.brw 3 [] 0),(4,avI x1)] [(3,Root.mk (Ty.sl yV) (Mk.own 0 (Mk.pr Mk.no (Mk.pr Mk.no (Mk.pr Mk.no Mk.no)))) x2 false)] 
def laws_toValueS_Q0_0 (v0_0:tVals):St:=stq 23 [(3,AV.brw 3 [] 0)] [(3,Root.mk (Ty.sl yV) (Mk.own 0 (Mk.pr Mk.no (Mk.pr Mk.no (Mk.pr Mk.no Mk.no)))) v0_0 false)] 
theorem laws_toValueS_SB0 (D:DX)(n:Nat) (m:Nat) (K:Ex→St→Option (Out ctx 56)) (x0:tVals) (x1:Int) (x2:tVals) :
  LQ funcTab D n 56 [.r,.r,.l,.r,.l] (m+1) (laws_toValueS_Q0 x0 x1 x2) K=laws_toValueS_b0 D n (fun x0 x1 x2=>LQ funcTab D n 56 [.r,.r,.l,.r,.l] m (laws_toValueS_Q0 x0 x1 x2) K) (fun v0_0=>K (Ex.exit 0) (laws_toValueS_Q0_0 v0_0)) x0 x1 x2:=by kernel_rfl
theorem laws_toValueS_EL0 (D:DX)(n:Nat) (K:Ex→St→Option (Out ctx 56)):∀ (m:Nat) (x0:tVals) (x1:Int) (x2:tVals),LQ funcTab D n 56 [.r,.r,.l,.r,.l] m (laws_toValueS_Q0 x0 x1 x2) K=laws_toValueS_L0 D n (fun v0_0=>K (Ex.exit 0) (laws_toValueS_Q0_0 v0_0)) m x0 x1 x2
  | 0,x0,x1,x2=>LQ_zero ..
  | m+1,x0,x1,x2=>by
    have ih:(fun x0 x1 x2=>LQ funcTab D n 56 [.r,.r,.l,.r,.l] m (laws_toValueS_Q0 x0 x1 x2) K)=laws_toValueS_L0 D n (fun v0_0=>K (Ex.exit 0) (laws_toValueS_Q0_0 v0_0)) m:=by funext x0 x1 x2;exact laws_toValueS_EL0 D n K m x0 x1 x2
    rw[laws_toValueS_SB0]
    rw[ih];rfl
theorem laws_toValueS_X0_0 (D:DX)(n:Nat) (v0_0:tVals) :
  (CQ funcTab D n 56 [] [.r,.r,.l,.r,.l] (lastK funcTab 56)) (Ex.exit 0) (laws_toValueS_Q0_0 v0_0)=laws_toValueS_x0_0 D n v0_0:=by kernel_rfl
theorem laws_toValueS_ELP0 (D:DX)(n:Nat) (x0:tVals) (x1:Int) (x2:tVals) :
  LQ funcTab D n 56 [.r,.r,.l,.r,.l] n (laws_toValueS_Q0 x0 x1 x2) (CQ funcTab D n 56 [] [.r,.r,.l,.r,.l] (lastK funcTab 56))=laws_toValueS_LP0 D n x0 x1 x2:=by
  rw[laws_toValueS_EL0]
  simp only[laws_toValueS_X0_0]
  rfl
theorem E_laws_toValueS (D:DX)(n:Nat) (a0:tVals):rfC funcTab D n 56 (a0,())=F_laws_toValueS D n a0:=by
  have h:rfC funcTab D n 56 (a0,())=laws_toValueS_e D n (fun x0 x1 x2=>LQ funcTab D n 56 [.r,.r,.l,.r,.l] n (laws_toValueS_Q0 x0 x1 x2) (CQ funcTab D n 56 [] [.r,.r,.l,.r,.l] (lastK funcTab 56))) a0:=by kernel_rfl
  rw[h]
  simp only[laws_toValueS_ELP0]
  rfl

def laws_eqRelation_e (D:DX)(n:Nat) (a0:(tSch)×tRows×Unit) (a1:(tSch)×tRows×Unit):Option ((Bool×Unit)×Unit):=bindD (C_laws_eqSchema D (Prod.fst a0) (Prod.fst a1)) fun b↦br (!Prod.fst (Prod.fst b)) (some ((false,()),())) (bindD (C_laws_eqValueSS D (Prod.fst (Prod.snd a0)) (Prod.fst (Prod.snd a1))) fun b↦br (!Prod.fst (Prod.fst b)) (some ((false,()),())) (some ((true,()),())))
def F_laws_eqRelation (D:DX)(n:Nat) (a0:(tSch)×tRows×Unit) (a1:(tSch)×tRows×Unit):Option ((Bool×Unit)×Unit):=laws_eqRelation_e D n a0 a1
theorem E_laws_eqRelation (D:DX)(n:Nat) (a0:(tSch)×
  tRows×Unit) (a1:(tSch)×
  tRows×Unit):rfC funcTab D n 57 (a0,(a1,()))=F_laws_eqRelation D n a0 a1:=by kernel_rfl

def laws_eqValueS_b0 (D:DX)(n:Nat) (go:tVals→tVals→Int→Option ((Bool×Unit)×Unit)) (K0:Bool→Option ((Bool×Unit)×Unit)) (K1:Option ((Bool×Unit)×Unit)) (x0:tVals) (x1:tVals) (x2:Int):Option ((Bool×Unit)×Unit):=br (decide (x2<(↑(List.length x0):Int))) (br (decide (0≤x2)&&decide (x2<(↑(List.length x0):Int))) (br (decide (0≤x2)&&decide (x2<(↑(List.length x1):Int))) (bindD (C_laws_eqValue D (List.getD x0 (Int.toNat x2) (0,0,ByteArray.empty,())) (List.getD x1 (Int.toNat x2) (0,0,ByteArray.empty,()))) fun b↦br (!Prod.fst (Prod.fst b)) (K0 false) (go x0 x1 (IntKind.wrap IntKind.i64 (x2+1)))) none) none) K1
def laws_eqValueS_L0 (D:DX)(n:Nat) (K0:Bool→Option ((Bool×Unit)×Unit)) (K1:Option ((Bool×Unit)×Unit)):Nat→(tVals)→(tVals)→(Int)→Option ((Bool×Unit)×Unit) | 0=>(fun x0 x1 x2=>none) | m+1=>(fun x0 x1 x2=>laws_eqValueS_b0 D n (laws_eqValueS_L0 D n K0 K1 m) K0 K1 x0 x1 x2)
def laws_eqValueS_x0_0 (D:DX)(n:Nat) (v0_0:Bool):Option ((Bool×Unit)×Unit):=some ((v0_0,()),())
def laws_eqValueS_x0_1 (D:DX)(n:Nat):Option ((Bool×Unit)×Unit):=some ((true,()),())
def laws_eqValueS_LP0 (D:DX)(n:Nat):(tVals)→(tVals)→(Int)→Option ((Bool×Unit)×Unit):=(fun x0 x1 x2=>laws_eqValueS_L0 D n (fun v0_0=>laws_eqValueS_x0_0 D n v0_0) (laws_eqValueS_x0_1 D n) n x0 x1 x2)
def laws_eqValueS_e (D:DX)(n:Nat) (lp0:tVals→tVals→Int→Option ((Bool×Unit)×Unit)) (a0:tVals) (a1:tVals):Option ((Bool×Unit)×Unit):=br ((↑(List.length a0):Int) != (↑(List.length a1):Int)) (some ((false,()),())) (lp0 a0 a1 0)
def F_laws_eqValueS (D:DX)(n:Nat) (a0:tVals) (a1:tVals):Option ((Bool×Unit)×Unit):=laws_eqValueS_e D n (laws_eqValueS_LP0 D n) a0 a1
def laws_eqValueS_Q0 (x0:tVals) (x1:tVals) (x2:Int):St:=stq 27 [(0,AV.val (Ty.sl yV) x0),(1,AV.val (Ty.sl yV) x1),(5,avI x2)] [] 
def laws_eqValueS_Q0_0 (v0_0:Bool):St:=stq 27 [(4,AV.val Ty.bool v0_0)] [] 
def laws_eqValueS_Q0_1:St:=stq 27 [] [] 
theorem laws_eqValueS_SB0 (D:DX)(n:Nat) (m:Nat) (K:Ex→St→Option (Out ctx 58)) (x0:tVals) (x1:tVals) (x2:Int) :
  LQ funcTab D n 58 [.r,.r,.l,.r,.l] (m+1) (laws_eqValueS_Q0 x0 x1 x2) K=laws_eqValueS_b0 D n (fun x0 x1 x2=>LQ funcTab D n 58 [.r,.r,.l,.r,.l] m (laws_eqValueS_Q0 x0 x1 x2) K) (fun v0_0=>K (Ex.ret) (laws_eqValueS_Q0_0 v0_0)) (K (Ex.exit 0) (laws_eqValueS_Q0_1)) x0 x1 x2:=by kernel_rfl
theorem laws_eqValueS_EL0 (D:DX)(n:Nat) (K:Ex→St→Option (Out ctx 58)):∀ (m:Nat) (x0:tVals) (x1:tVals) (x2:Int),LQ funcTab D n 58 [.r,.r,.l,.r,.l] m (laws_eqValueS_Q0 x0 x1 x2) K=laws_eqValueS_L0 D n (fun v0_0=>K (Ex.ret) (laws_eqValueS_Q0_0 v0_0)) (K (Ex.exit 0) (laws_eqValueS_Q0_1)) m x0 x1 x2
  | 0,x0,x1,x2=>LQ_zero ..
  | m+1,x0,x1,x2=>by
    have ih:(fun x0 x1 x2=>LQ funcTab D n 58 [.r,.r,.l,.r,.l] m (laws_eqValueS_Q0 x0 x1 x2) K)=laws_eqValueS_L0 D n (fun v0_0=>K (Ex.ret) (laws_eqValueS_Q0_0 v0_0)) (K (Ex.exit 0) (laws_eqValueS_Q0_1)) m:=by funext x0 x1 x2;exact laws_eqValueS_EL0 D n K m x0 x1 x2
    rw[laws_eqValueS_SB0]
    rw[ih];rfl
theorem laws_eqValueS_X0_0 (D:DX)(n:Nat) (v0_0:Bool) :
  (CQ funcTab D n 58 [] [.r,.r,.l,.r,.l] (lastK funcTab 58)) (Ex.ret) (laws_eqValueS_Q0_0 v0_0)=laws_eqValueS_x0_0 D n v0_0:=by kernel_rfl
theorem laws_eqValueS_X0_1 (D:DX)(n:Nat) :
  (CQ funcTab D n 58 [] [.r,.r,.l,.r,.l] (lastK funcTab 58)) (Ex.exit 0) (laws_eqValueS_Q0_1)=laws_eqValueS_x0_1 D n:=by kernel_rfl
theorem laws_eqValueS_ELP0 (D:DX)(n:Nat) (x0:tVals) (x1:tVals) (x2:Int) :
  LQ funcTab D n 58 [.r,.r,.l,.r,.l] n (laws_eqValueS_Q0 x0 x1 x2) (CQ funcTab D n 58 [] [.r,.r,.l,.r,.l] (lastK funcTab 58))=laws_eqValueS_LP0 D n x0 x1 x2:=by
  rw[laws_eqValueS_EL0]
  simp only[laws_eqValueS_X0_0,laws_eqValueS_X0_1]
  rfl
theorem E_laws_eqValueS (D:DX)(n:Nat) (a0:tVals) (a1:tVals):rfC funcTab D n 58 (a0,(a1,()))=F_laws_eqValueS D n a0 a1:=by
  have h:rfC funcTab D n 58 (a0,(a1,()))=laws_eqValueS_e D n (fun x0 x1 x2=>LQ funcTab D n 58 [.r,.r,.l,.r,.l] n (laws_eqValueS_Q0 x0 x1 x2) (CQ funcTab D n 58 [] [.r,.r,.l,.r,.l] (lastK funcTab 58))) a0 a1:=by kernel_rfl
  rw[h]
  simp only[laws_eqValueS_ELP0]
  rfl

def laws_markRelation_e (D:DX)(n:Nat) (a0:(tSch)×tRows×Unit) (a1:Int):Option ((Int×Unit)×((tSch)×tRows×Unit)×Unit):=bindD (C_laws_markSchema D (Prod.fst (Prod.fst a0),Prod.fst (Prod.snd (Prod.fst a0)),Prod.fst (Prod.snd (Prod.snd (Prod.fst a0))),()) a1) fun b↦bindD (C_laws_markValueSS D (Prod.fst (Prod.snd a0)) (Prod.fst (Prod.fst b))) fun b_1↦some ((Prod.fst (Prod.fst b_1),()),((Prod.fst (Prod.fst (Prod.snd b)),Prod.fst (Prod.snd (Prod.fst (Prod.snd b))),Prod.fst (Prod.snd (Prod.snd (Prod.fst (Prod.snd b)))),()),Prod.fst (Prod.snd b_1),()),())
def F_laws_markRelation (D:DX)(n:Nat) (a0:(tSch)×tRows×Unit) (a1:Int):Option ((Int×Unit)×((tSch)×tRows×Unit)×Unit):=laws_markRelation_e D n a0 a1
theorem E_laws_markRelation (D:DX)(n:Nat) (a0:(tSch)×
  tRows×Unit) (a1:Int):rfC funcTab D n 59 (a0,(a1,()))=F_laws_markRelation D n a0 a1:=by kernel_rfl

def laws_markValueS_b0 (D:DX)(n:Nat) (go:Int→Int→tVals→Option ((Int×Unit)×tVals×Unit)) (K0:Int→tVals→Option ((Int×Unit)×tVals×Unit)) (x0:Int) (x1:Int) (x2:tVals):Option ((Int×Unit)×tVals×Unit):=br (decide (x1<(↑(List.length x2):Int))) (br (decide (0≤x1)&&decide (x1<(↑(List.length x2):Int))) (br (decide (0≤x1)&&decide (x1<(↑(List.length (List.set x2 (Int.toNat x1) (x0,Prod.snd (List.getD x2 (Int.toNat x1) (0,0,ByteArray.empty,()))))):Int))) (bindD (C_laws_markText D (IntKind.wrap IntKind.i64 (IntKind.wrap IntKind.i64 (x0+1)+1))) fun b↦br (decide (0≤x1)&&decide (x1<(↑(List.length (List.set (List.set x2 (Int.toNat x1) (x0,Prod.snd (List.getD x2 (Int.toNat x1) (0,0,ByteArray.empty,())))) (Int.toNat x1) (Prod.fst (List.getD (List.set x2 (Int.toNat x1) (x0,Prod.snd (List.getD x2 (Int.toNat x1) (0,0,ByteArray.empty,())))) (Int.toNat x1) (0,0,ByteArray.empty,())),IntKind.wrap IntKind.i64 (x0+1),Prod.snd (Prod.snd (List.getD (List.set x2 (Int.toNat x1) (x0,Prod.snd (List.getD x2 (Int.toNat x1) (0,0,ByteArray.empty,())))) (Int.toNat x1) (0,0,ByteArray.empty,())))))):Int))) (go (IntKind.wrap IntKind.i64 (IntKind.wrap IntKind.i64 (IntKind.wrap IntKind.i64 (x0+1)+1)+1)) (IntKind.wrap IntKind.i64 (x1+1)) (List.set (List.set (List.set x2 (Int.toNat x1) (x0,Prod.snd (List.getD x2 (Int.toNat x1) (0,0,ByteArray.empty,())))) (Int.toNat x1) (Prod.fst (List.getD (List.set x2 (Int.toNat x1) (x0,Prod.snd (List.getD x2 (Int.toNat x1) (0,0,ByteArray.empty,())))) (Int.toNat x1) (0,0,ByteArray.empty,())),IntKind.wrap IntKind.i64 (x0+1),Prod.snd (Prod.snd (List.getD (List.set x2 (Int.toNat x1) (x0,Prod.snd (List.getD x2 (Int.toNat x1) (0,0,ByteArray.empty,())))) (Int.toNat x1) (0,0,ByteArray.empty,()))))) (Int.toNat x1) (Prod.fst (List.getD (List.set (List.set x2 (Int.toNat x1) (x0,Prod.snd (List.getD x2 (Int.toNat x1) (0,0,ByteArray.empty,())))) (Int.toNat x1) (Prod.fst (List.getD (List.set x2 (Int.toNat x1) (x0,Prod.snd (List.getD x2 (Int.toNat x1) (0,0,ByteArray.empty,())))) (Int.toNat x1) (0,0,ByteArray.empty,())),IntKind.wrap IntKind.i64 (x0+1),Prod.snd (Prod.snd (List.getD (List.set x2 (Int.toNat x1) (x0,Prod.snd (List.getD x2 (Int.toNat x1) (0,0,ByteArray.empty,())))) (Int.toNat x1) (0,0,ByteArray.empty,()))))) (Int.toNat x1) (0,0,ByteArray.empty,())),Prod.fst (Prod.snd (List.getD (List.set (List.set x2 (Int.toNat x1) (x0,Prod.snd (List.getD x2 (Int.toNat x1) (0,0,ByteArray.empty,())))) (Int.toNat x1) (Prod.fst (List.getD (List.set x2 (Int.toNat x1) (x0,Prod.snd (List.getD x2 (Int.toNat x1) (0,0,ByteArray.empty,())))) (Int.toNat x1) (0,0,ByteArray.empty,())),IntKind.wrap IntKind.i64 (x0+1),Prod.snd (Prod.snd (List.getD (List.set x2 (Int.toNat x1) (x0,Prod.snd (List.getD x2 (Int.toNat x1) (0,0,ByteArray.empty,())))) (Int.toNat x1) (0,0,ByteArray.empty,()))))) (Int.toNat x1) (0,0,ByteArray.empty,()))),Prod.fst (Prod.fst b),Prod.snd (Prod.snd (Prod.snd (List.getD (List.set (List.set x2 (Int.toNat x1) (x0,Prod.snd (List.getD x2 (Int.toNat x1) (0,0,ByteArray.empty,())))) (Int.toNat x1) (Prod.fst (List.getD (List.set x2 (Int.toNat x1) (x0,Prod.snd (List.getD x2 (Int.toNat x1) (0,0,ByteArray.empty,())))) (Int.toNat x1) (0,0,ByteArray.empty,())),IntKind.wrap IntKind.i64 (x0+1),Prod.snd (Prod.snd (List.getD (List.set x2 (Int.toNat x1) (x0,Prod.snd (List.getD x2 (Int.toNat x1) (0,0,ByteArray.empty,())))) (Int.toNat x1) (0,0,ByteArray.empty,()))))) (Int.toNat x1) (0,0,ByteArray.empty,()))))))) none) none) none) (K0 x0 x2)
def laws_markValueS_L0 (D:DX)(n:Nat) (K0:Int→tVals→Option ((Int×Unit)×tVals×Unit)):Nat→(Int)→(Int)→(tVals)→Option ((Int×Unit)×tVals×Unit) | 0=>(fun x0 x1 x2=>none) | m+1=>(fun x0 x1 x2=>laws_markValueS_b0 D n (laws_markValueS_L0 D n K0 m) K0 x0 x1 x2)
def laws_markValueS_x0_0 (D:DX)(n:Nat) (v0_0:Int) (v0_1:tVals):Option ((Int×Unit)×tVals×Unit):=some ((v0_0,()),v0_1,())
def laws_markValueS_LP0 (D:DX)(n:Nat):(Int)→(Int)→(tVals)→Option ((Int×Unit)×tVals×Unit):=(fun x0 x1 x2=>laws_markValueS_L0 D n (fun v0_0 v0_1=>laws_markValueS_x0_0 D n v0_0 v0_1) n x0 x1 x2)
def laws_markValueS_e (D:DX)(n:Nat) (lp0:Int→Int→tVals→Option ((Int×Unit)×tVals×Unit)) (a0:tVals) (a1:Int):Option ((Int×Unit)×tVals×Unit):=lp0 a1 0 a0
def F_laws_markValueS (D:DX)(n:Nat) (a0:tVals) (a1:Int):Option ((Int×Unit)×tVals×Unit):=laws_markValueS_e D n (laws_markValueS_LP0 D n) a0 a1
def laws_markValueS_Q0 (x0:Int) (x1:Int) (x2:tVals):St:=stq 35 [(0,AV.brw 0 [] 1048576),(1,avI x0),(5,avI x1)] [(0,Root.mk (Ty.sl yV) (Mk.own 1048576 (Mk.pr Mk.no (Mk.pr Mk.no (Mk.pr Mk.no Mk.no)))) x2 false)] 
def laws_markValueS_Q0_0 (v0_0:Int) (v0_1:tVals):St:=stq 35 [(0,AV.brw 0 [] 1048576),(1,avI v0_0)] [(0,Root.mk (Ty.sl yV) (Mk.own 1048576 (Mk.pr Mk.no (Mk.pr Mk.no (Mk.pr Mk.no Mk.no)))) v0_1 false)] 
theorem laws_markValueS_SB0 (D:DX)(n:Nat) (m:Nat) (K:Ex→St→Option (Out ctx 60)) (x0:Int) (x1:Int) (x2:tVals) :
  LQ funcTab D n 60 [.r,.l,.r,.l] (m+1) (laws_markValueS_Q0 x0 x1 x2) K=laws_markValueS_b0 D n (fun x0 x1 x2=>LQ funcTab D n 60 [.r,.l,.r,.l] m (laws_markValueS_Q0 x0 x1 x2) K) (fun v0_0 v0_1=>K (Ex.exit 0) (laws_markValueS_Q0_0 v0_0 v0_1)) x0 x1 x2:=by kernel_rfl
theorem laws_markValueS_EL0 (D:DX)(n:Nat) (K:Ex→St→Option (Out ctx 60)):∀ (m:Nat) (x0:Int) (x1:Int) (x2:tVals),LQ funcTab D n 60 [.r,.l,.r,.l] m (laws_markValueS_Q0 x0 x1 x2) K=laws_markValueS_L0 D n (fun v0_0 v0_1=>K (Ex.exit 0) (laws_markValueS_Q0_0 v0_0 v0_1)) m x0 x1 x2
  | 0,x0,x1,x2=>LQ_zero ..
  | m+1,x0,x1,x2=>by
    have ih:(fun x0 x1 x2=>LQ funcTab D n 60 [.r,.l,.r,.l] m (laws_markValueS_Q0 x0 x1 x2) K)=laws_markValueS_L0 D n (fun v0_0 v0_1=>K (Ex.exit 0) (laws_markValueS_Q0_0 v0_0 v0_1)) m:=by funext x0 x1 x2;exact laws_markValueS_EL0 D n K m x0 x1 x2
    rw[laws_markValueS_SB0]
    rw[ih];rfl
theorem laws_markValueS_X0_0 (D:DX)(n:Nat) (v0_0:Int) (v0_1:tVals) :
  (CQ funcTab D n 60 [] [.r,.l,.r,.l] (lastK funcTab 60)) (Ex.exit 0) (laws_markValueS_Q0_0 v0_0 v0_1)=laws_markValueS_x0_0 D n v0_0 v0_1:=by kernel_rfl
theorem laws_markValueS_ELP0 (D:DX)(n:Nat) (x0:Int) (x1:Int) (x2:tVals) :
  LQ funcTab D n 60 [.r,.l,.r,.l] n (laws_markValueS_Q0 x0 x1 x2) (CQ funcTab D n 60 [] [.r,.l,.r,.l] (lastK funcTab 60))=laws_markValueS_LP0 D n x0 x1 x2:=by
  rw[laws_markValueS_EL0]
  simp only[laws_markValueS_X0_0]
  rfl
theorem E_laws_markValueS (D:DX)(n:Nat) (a0:tVals) (a1:Int):rfC funcTab D n 60 (a0,(a1,()))=F_laws_markValueS D n a0 a1:=by
  have h:rfC funcTab D n 60 (a0,(a1,()))=laws_markValueS_e D n (fun x0 x1 x2=>LQ funcTab D n 60 [.r,.l,.r,.l] n (laws_markValueS_Q0 x0 x1 x2) (CQ funcTab D n 60 [] [.r,.l,.r,.l] (lastK funcTab 60))) a0 a1:=by kernel_rfl
  rw[h]
  simp only[laws_markValueS_ELP0]
  rfl

def laws_heldRelation_e (D:DX)(n:Nat) (a0:(tSch)×tRows×Unit) (a1:Int):Option ((Int×Unit)×Unit):=bindD (C_laws_heldSchema D (Prod.fst a0) a1) fun b↦br (decide (Prod.fst (Prod.fst b)<0)) (some ((-1,()),())) (bindD (C_laws_heldValueSS D (Prod.fst (Prod.snd a0)) (Prod.fst (Prod.fst b))) fun b↦br (decide (Prod.fst (Prod.fst b)<0)) (some ((-1,()),())) (some ((Prod.fst (Prod.fst b),()),())))
def F_laws_heldRelation (D:DX)(n:Nat) (a0:(tSch)×tRows×Unit) (a1:Int):Option ((Int×Unit)×Unit):=laws_heldRelation_e D n a0 a1
theorem E_laws_heldRelation (D:DX)(n:Nat) (a0:(tSch)×
  tRows×Unit) (a1:Int):rfC funcTab D n 61 (a0,(a1,()))=F_laws_heldRelation D n a0 a1:=by kernel_rfl

def impl_from_e (D:DX)(n:Nat) (a0:Int) (a1:Int) (a2:Int):Option ((Bool×Unit)×Unit):=some ((bif decide (a0≥a1) then decide (a0≤a2) else false,()),())
def F_impl_from (D:DX)(n:Nat) (a0:Int) (a1:Int) (a2:Int):Option ((Bool×Unit)×Unit):=impl_from_e D n a0 a1 a2
theorem E_impl_from (D:DX)(n:Nat) (a0:Int) (a1:Int) (a2:Int):rfC funcTab D n 68 (a0,(a1,(a2,())))=F_impl_from D n a0 a1 a2:=by kernel_rfl

def impl_RowOk_b0 (D:DX)(n:Nat) (go:tVals→Int→Int→tSch→Option ((Bool×Unit)×Unit)) (K0:Bool→Option ((Bool×Unit)×Unit)) (K1:Option ((Bool×Unit)×Unit)) (x0:tVals) (x1:Int) (x2:Int) (x3:tSch):Option ((Bool×Unit)×Unit):=br (decide (x2<x1)) (br (decide (0≤x2)&&decide (x2<(↑(List.length x0):Int))) (br (decide (0≤x2)&&decide (x2<(↑(List.length (Prod.fst x3)):Int))) (bindD (C_impl_ValueOk D (List.getD x0 (Int.toNat x2) (0,0,ByteArray.empty,()))) fun b↦br (bif !Prod.fst (Prod.fst b) then true else bif Prod.fst (List.getD x0 (Int.toNat x2) (0,0,ByteArray.empty,())) != Prod.fst (Prod.snd (List.getD (Prod.fst x3) (Int.toNat x2) (ByteArray.empty,0,false,()))) then !bif decide (Prod.fst (List.getD x0 (Int.toNat x2) (0,0,ByteArray.empty,()))=0) then Prod.fst (Prod.snd (Prod.snd (List.getD (Prod.fst x3) (Int.toNat x2) (ByteArray.empty,0,false,())))) else false else false) (K0 false) (go x0 x1 (IntKind.wrap IntKind.i64 (x2+1)) x3)) none) none) K1
def impl_RowOk_L0 (D:DX)(n:Nat) (K0:Bool→Option ((Bool×Unit)×Unit)) (K1:Option ((Bool×Unit)×Unit)):Nat→(tVals)→(Int)→(Int)→(tSch)→Option ((Bool×Unit)×Unit) | 0=>(fun x0 x1 x2 x3=>none) | m+1=>(fun x0 x1 x2 x3=>impl_RowOk_b0 D n (impl_RowOk_L0 D n K0 K1 m) K0 K1 x0 x1 x2 x3)
def impl_RowOk_x0_0 (D:DX)(n:Nat) (v0_0:Bool):Option ((Bool×Unit)×Unit):=some ((v0_0,()),())
def impl_RowOk_x0_1 (D:DX)(n:Nat):Option ((Bool×Unit)×Unit):=some ((true,()),())
def impl_RowOk_LP0 (D:DX)(n:Nat):(tVals)→(Int)→(Int)→(tSch)→Option ((Bool×Unit)×Unit):=(fun x0 x1 x2 x3=>impl_RowOk_L0 D n (fun v0_0=>impl_RowOk_x0_0 D n v0_0) (impl_RowOk_x0_1 D n) n x0 x1 x2 x3)
def impl_RowOk_e (D:DX)(n:Nat) (lp0:tVals→Int→Int→tSch→Option ((Bool×Unit)×Unit)) (a0:tSch) (a1:tVals):Option ((Bool×Unit)×Unit):=bindD (C_impl_SchemaOk D a0) fun b↦br (bif !Prod.fst (Prod.fst b) then true else (↑(List.length a1):Int) != (↑(List.length (Prod.fst a0)):Int)) (some ((false,()),())) (lp0 a1 (↑(List.length a1):Int) 0 a0)
def F_impl_RowOk (D:DX)(n:Nat) (a0:tSch) (a1:tVals):Option ((Bool×Unit)×Unit):=impl_RowOk_e D n (impl_RowOk_LP0 D n) a0 a1
def impl_RowOk_Q0 (x0:tVals) (x1:Int) (x2:Int) (x3:tSch):St:=stq 52 [(2,AV.addr 2 []),(19,AV.val (Ty.sl yV) x0),(20,avI x1),(21,avI x2)] [(2,Root.mk yS Mk.no x3 true)] 
def impl_RowOk_Q0_0 (v0_0:Bool):St:=stq 52 [(4,AV.val Ty.bool v0_0)] [] 
def impl_RowOk_Q0_1:St:=stq 52 [] [] 
theorem impl_RowOk_SB0 (D:DX)(n:Nat) (m:Nat) (K:Ex→St→Option (Out ctx 77)) (x0:tVals) (x1:Int) (x2:Int) (x3:tSch) :
  LQ funcTab D n 77 [.r,.r,.l,.r,.l] (m+1) (impl_RowOk_Q0 x0 x1 x2 x3) K=impl_RowOk_b0 D n (fun x0 x1 x2 x3=>LQ funcTab D n 77 [.r,.r,.l,.r,.l] m (impl_RowOk_Q0 x0 x1 x2 x3) K) (fun v0_0=>K (Ex.ret) (impl_RowOk_Q0_0 v0_0)) (K (Ex.exit 0) (impl_RowOk_Q0_1)) x0 x1 x2 x3:=by kernel_rfl
theorem impl_RowOk_EL0 (D:DX)(n:Nat) (K:Ex→St→Option (Out ctx 77)):∀ (m:Nat) (x0:tVals) (x1:Int) (x2:Int) (x3:tSch),LQ funcTab D n 77 [.r,.r,.l,.r,.l] m (impl_RowOk_Q0 x0 x1 x2 x3) K=impl_RowOk_L0 D n (fun v0_0=>K (Ex.ret) (impl_RowOk_Q0_0 v0_0)) (K (Ex.exit 0) (impl_RowOk_Q0_1)) m x0 x1 x2 x3
  | 0,x0,x1,x2,x3=>LQ_zero ..
  | m+1,x0,x1,x2,x3=>by
    have ih:(fun x0 x1 x2 x3=>LQ funcTab D n 77 [.r,.r,.l,.r,.l] m (impl_RowOk_Q0 x0 x1 x2 x3) K)=impl_RowOk_L0 D n (fun v0_0=>K (Ex.ret) (impl_RowOk_Q0_0 v0_0)) (K (Ex.exit 0) (impl_RowOk_Q0_1)) m:=by funext x0 x1 x2 x3;exact impl_RowOk_EL0 D n K m x0 x1 x2 x3
    rw[impl_RowOk_SB0]
    rw[ih];rfl
theorem impl_RowOk_X0_0 (D:DX)(n:Nat) (v0_0:Bool) :
  (CQ funcTab D n 77 [] [.r,.r,.l,.r,.l] (lastK funcTab 77)) (Ex.ret) (impl_RowOk_Q0_0 v0_0)=impl_RowOk_x0_0 D n v0_0:=by kernel_rfl
theorem impl_RowOk_X0_1 (D:DX)(n:Nat) :
  (CQ funcTab D n 77 [] [.r,.r,.l,.r,.l] (lastK funcTab 77)) (Ex.exit 0) (impl_RowOk_Q0_1)=impl_RowOk_x0_1 D n:=by kernel_rfl
theorem impl_RowOk_ELP0 (D:DX)(n:Nat) (x0:tVals) (x1:Int) (x2:Int) (x3:tSch) :
  LQ funcTab D n 77 [.r,.r,.l,.r,.l] n (impl_RowOk_Q0 x0 x1 x2 x3) (CQ funcTab D n 77 [] [.r,.r,.l,.r,.l] (lastK funcTab 77))=impl_RowOk_LP0 D n x0 x1 x2 x3:=by
  rw[impl_RowOk_EL0]
  simp only[impl_RowOk_X0_0,impl_RowOk_X0_1]
  rfl
theorem E_impl_RowOk (D:DX)(n:Nat) (a0:tSch) (a1:tVals):rfC funcTab D n 77 (a0,(a1,()))=F_impl_RowOk D n a0 a1:=by
  have h:rfC funcTab D n 77 (a0,(a1,()))=impl_RowOk_e D n (fun x0 x1 x2 x3=>LQ funcTab D n 77 [.r,.r,.l,.r,.l] n (impl_RowOk_Q0 x0 x1 x2 x3) (CQ funcTab D n 77 [] [.r,.r,.l,.r,.l] (lastK funcTab 77))) a0 a1:=by kernel_rfl
  rw[h]
  simp only[impl_RowOk_ELP0]
  rfl

def impl_TupleLess_e (D:DX)(n:Nat) (a0:tVals) (a1:tVals):Option ((Bool×Unit)×Unit):=bindD (C_slices_CompareFunc_impl_Value_impl_Value_impl_Value_impl_Value D a0 a1 (Clo.mk 141 [])) fun b↦some ((decide (Prod.fst (Prod.fst b)<0),()),())
def F_impl_TupleLess (D:DX)(n:Nat) (a0:tVals) (a1:tVals):Option ((Bool×Unit)×Unit):=impl_TupleLess_e D n a0 a1
theorem E_impl_TupleLess (D:DX)(n:Nat) (a0:tVals) (a1:tVals):rfC funcTab D n 78 (a0,(a1,()))=F_impl_TupleLess D n a0 a1:=by kernel_rfl

def slices_ContainsFunc_impl_Value_impl_Value_e (D:DX)(n:Nat) (a1:Clo) (a0:tRows):Option ((Bool×Unit)×Unit):=bindD (C_slices_IndexFunc_impl_Value_impl_Value D a0 a1) fun b↦some ((decide (Prod.fst (Prod.fst b)≥0),()),())
def F_slices_ContainsFunc_impl_Value_impl_Value (D:DX)(n:Nat) (a0:tRows) (a1:Clo):Option ((Bool×Unit)×Unit):=slices_ContainsFunc_impl_Value_impl_Value_e D n a1 a0
theorem E_slices_ContainsFunc_impl_Value_impl_Value (D:DX)(n:Nat) (a0:tRows) (a1:Clo):rfC funcTab D n 79 (a0,(a1,()))=F_slices_ContainsFunc_impl_Value_impl_Value D n a0 a1:=by kernel_rfl

def impl_RelOk_1_e (D:DX)(n:Nat) (a0:tVals) (a1:(tSch)×tRows×Unit) (a2:tVals):Option ((Bool×Unit)×Unit):=bindD (C_impl_clash D (Prod.fst a1) a2 a0) fun b↦some ((Prod.fst (Prod.fst b),()),())
def F_impl_RelOk_1 (D:DX)(n:Nat) (a0:tVals) (a1:(tSch)×tRows×Unit) (a2:tVals):Option ((Bool×Unit)×Unit):=impl_RelOk_1_e D n a0 a1 a2
theorem E_impl_RelOk_1 (D:DX)(n:Nat) (a0:tVals) (a1:(tSch)×
  tRows×Unit) (a2:tVals):rfC funcTab D n 80 (a0,(a1,(a2,())))=F_impl_RelOk_1 D n a0 a1 a2:=by kernel_rfl

def impl_clash_e (D:DX)(n:Nat) (a0:tSch) (a1:tVals) (a2:tVals):Option ((Bool×Unit)×Unit):=bindD (C_slices_ContainsFunc_impl_Index_impl_Index D (Prod.fst (Prod.snd (Prod.snd a0))) (Clo.mk 143 [CapV.rptr (Ty.sl (Ty.pair (Ty.int IntKind.i64) (Ty.pair (Ty.int IntKind.i64) (Ty.pair Ty.str Ty.unit)))) a1,CapV.rptr (Ty.sl (Ty.pair (Ty.int IntKind.i64) (Ty.pair (Ty.int IntKind.i64) (Ty.pair Ty.str Ty.unit)))) a2])) fun b↦some ((Prod.fst (Prod.fst b),()),())
def F_impl_clash (D:DX)(n:Nat) (a0:tSch) (a1:tVals) (a2:tVals):Option ((Bool×Unit)×Unit):=impl_clash_e D n a0 a1 a2
theorem E_impl_clash (D:DX)(n:Nat) (a0:tSch) (a1:tVals) (a2:tVals):rfC funcTab D n 81 (a0,(a1,(a2,())))=F_impl_clash D n a0 a1 a2:=by kernel_rfl

def impl_SchemaOk_b0 (D:DX)(n:Nat) (go:tCols→Int→Int→tSch→Option ((Bool×Unit)×Unit)) (K0:Bool→tSch→Option ((Bool×Unit)×Unit)) (K1:tSch→Option ((Bool×Unit)×Unit)) (x0:tCols) (x1:Int) (x2:Int) (x3:tSch):Option ((Bool×Unit)×Unit):=br (decide (x2<x1)) (br (decide (0≤x2)&&decide (x2<(↑(List.length x0):Int))) (bindD (C_impl_ColNameOk D (Prod.fst (List.getD x0 (Int.toNat x2) (ByteArray.empty,0,false,())))) fun b↦br (!Prod.fst (Prod.fst b)) (K0 false x3) (bindD (C_impl_from D (Prod.fst (Prod.snd (List.getD x0 (Int.toNat x2) (ByteArray.empty,0,false,())))) 1 3) fun b↦br (!Prod.fst (Prod.fst b)) (K0 false x3) (bindD (C_impl_ColAt D x3 (Prod.fst (List.getD x0 (Int.toNat x2) (ByteArray.empty,0,false,())))) fun b↦br (Prod.fst (Prod.fst b) != x2) (K0 false x3) (go x0 x1 (IntKind.wrap IntKind.i64 (x2+1)) x3)))) none) (K1 x3)
def impl_SchemaOk_L0 (D:DX)(n:Nat) (K0:Bool→tSch→Option ((Bool×Unit)×Unit)) (K1:tSch→Option ((Bool×Unit)×Unit)):Nat→(tCols)→(Int)→(Int)→(tSch)→Option ((Bool×Unit)×Unit) | 0=>(fun x0 x1 x2 x3=>none) | m+1=>(fun x0 x1 x2 x3=>impl_SchemaOk_b0 D n (impl_SchemaOk_L0 D n K0 K1 m) K0 K1 x0 x1 x2 x3)
def impl_SchemaOk_x0_0 (D:DX)(n:Nat) (v0_0:Bool) (v0_1:tSch):Option ((Bool×Unit)×Unit):=some ((v0_0,()),())
def impl_SchemaOk_b1 (D:DX)(n:Nat) (go:tIxs→Int→Int→tSch→Option ((Bool×Unit)×Unit)) (K0:Bool→tSch→Option ((Bool×Unit)×Unit)) (K1:tSch→Option ((Bool×Unit)×Unit)) (x1_0:tIxs) (x1_1:Int) (x1_2:Int) (x1_3:tSch):Option ((Bool×Unit)×Unit):=br (decide (x1_2<x1_1)) (br (decide (0≤x1_2)&&decide (x1_2<(↑(List.length x1_0):Int))) (bindD (C_impl_ColNameOk D (Prod.fst (List.getD x1_0 (Int.toNat x1_2) (ByteArray.empty,[],false,())))) fun b↦br (!Prod.fst (Prod.fst b)) (K0 false x1_3) (bindD (C_impl_placesOk D x1_3 (Prod.fst (Prod.snd (List.getD x1_0 (Int.toNat x1_2) (ByteArray.empty,[],false,())))) 3) fun b↦br (!Prod.fst (Prod.fst b)) (K0 false x1_3) (br (decide (0≤0)&&decide (0≤x1_2)&&decide (x1_2≤(↑(List.length (Prod.fst (Prod.snd (Prod.snd x1_3)))):Int))) (bindD (C_slices_ContainsFunc_impl_Index_impl_Index D (List.drop (Int.toNat 0) (List.take (Int.toNat x1_2) (Prod.fst (Prod.snd (Prod.snd x1_3))))) (Clo.mk 149 [CapV.rptr (Ty.pair Ty.str (Ty.pair (Ty.sl (Ty.int IntKind.i64)) (Ty.pair Ty.bool Ty.unit))) (List.getD x1_0 (Int.toNat x1_2) (ByteArray.empty,[],false,()))])) fun b↦br (Prod.fst (Prod.fst b)) (K0 false x1_3) (go x1_0 x1_1 (IntKind.wrap IntKind.i64 (x1_2+1)) x1_3)) none))) none) (K1 x1_3)
def impl_SchemaOk_L1 (D:DX)(n:Nat) (K0:Bool→tSch→Option ((Bool×Unit)×Unit)) (K1:tSch→Option ((Bool×Unit)×Unit)):Nat→(tIxs)→(Int)→(Int)→(tSch)→Option ((Bool×Unit)×Unit) | 0=>(fun x1_0 x1_1 x1_2 x1_3=>none) | m+1=>(fun x1_0 x1_1 x1_2 x1_3=>impl_SchemaOk_b1 D n (impl_SchemaOk_L1 D n K0 K1 m) K0 K1 x1_0 x1_1 x1_2 x1_3)
def impl_SchemaOk_x1_0 (D:DX)(n:Nat) (v0_0:Bool) (v0_1:tSch):Option ((Bool×Unit)×Unit):=some ((v0_0,()),())
def impl_SchemaOk_x1_1 (D:DX)(n:Nat) (v1_0:tSch):Option ((Bool×Unit)×Unit):=bindD (C_impl_from D (↑(List.length (Prod.fst v1_0)):Int) 1 5) fun b↦br (Prod.fst (Prod.fst b)) (bindD (C_impl_placesOk D v1_0 (Prod.fst (Prod.snd v1_0)) 4) fun b↦br (Prod.fst (Prod.fst b)) (bindD (C_slices_ContainsFunc_int_int D (Prod.fst (Prod.snd v1_0)) (Clo.mk 151 [CapV.rptr (Ty.pair (Ty.sl (Ty.pair Ty.str (Ty.pair (Ty.int IntKind.i64) (Ty.pair Ty.bool Ty.unit)))) (Ty.pair (Ty.sl (Ty.int IntKind.i64)) (Ty.pair (Ty.sl (Ty.pair Ty.str (Ty.pair (Ty.sl (Ty.int IntKind.i64)) (Ty.pair Ty.bool Ty.unit)))) Ty.unit))) v1_0])) fun b↦some ((bif !Prod.fst (Prod.fst b) then decide ((↑(List.length (Prod.fst (Prod.snd (Prod.snd v1_0)))):Int)≤3) else false,()),())) (some ((false,()),()))) (some ((false,()),()))
def impl_SchemaOk_LP1 (D:DX)(n:Nat):(tIxs)→(Int)→(Int)→(tSch)→Option ((Bool×Unit)×Unit):=(fun x1_0 x1_1 x1_2 x1_3=>impl_SchemaOk_L1 D n (fun v0_0 v0_1=>impl_SchemaOk_x1_0 D n v0_0 v0_1) (fun v1_0=>impl_SchemaOk_x1_1 D n v1_0) n x1_0 x1_1 x1_2 x1_3)
def impl_SchemaOk_x0_1 (D:DX)(n:Nat) (lp1:tIxs→Int→Int→tSch→Option ((Bool×Unit)×Unit)) (v1_0:tSch):Option ((Bool×Unit)×Unit):=lp1 (Prod.fst (Prod.snd (Prod.snd v1_0))) (↑(List.length (Prod.fst (Prod.snd (Prod.snd v1_0)))):Int) 0 v1_0
def impl_SchemaOk_LP0 (D:DX)(n:Nat):(tCols)→(Int)→(Int)→(tSch)→Option ((Bool×Unit)×Unit):=(fun x0 x1 x2 x3=>impl_SchemaOk_L0 D n (fun v0_0 v0_1=>impl_SchemaOk_x0_0 D n v0_0 v0_1) (fun v1_0=>impl_SchemaOk_x0_1 D n (impl_SchemaOk_LP1 D n) v1_0) n x0 x1 x2 x3)
def impl_SchemaOk_e (D:DX)(n:Nat) (lp0:tCols→Int→Int→tSch→Option ((Bool×Unit)×Unit)) (a0:tSch):Option ((Bool×Unit)×Unit):=lp0 (Prod.fst a0) (↑(List.length (Prod.fst a0)):Int) 0 a0
def F_impl_SchemaOk (D:DX)(n:Nat) (a0:tSch):Option ((Bool×Unit)×Unit):=impl_SchemaOk_e D n (impl_SchemaOk_LP0 D n) a0
def impl_SchemaOk_Q0 (x0:tCols) (x1:Int) (x2:Int) (x3:tSch):St:=stq 85 [(1,AV.addr 1 []),(8,AV.val (Ty.sl yC) x0),(9,avI x1),(10,avI x2)] [(1,Root.mk yS Mk.no x3 true)] 
def impl_SchemaOk_Q0_0 (v0_0:Bool) (v0_1:tSch):St:=stq 85 [(1,AV.addr 1 []),(2,AV.val Ty.bool v0_0)] [(1,Root.mk yS Mk.no v0_1 true)] 
def impl_SchemaOk_Q0_1 (v1_0:tSch):St:=stq 85 [(1,AV.addr 1 [])] [(1,Root.mk yS Mk.no v1_0 true)] 
def impl_SchemaOk_Q1 (x1_0:tIxs) (x1_1:Int) (x1_2:Int) (x1_3:tSch):St:=stq 85 [(1,AV.addr 1 []),(35,AV.val (Ty.sl yX) x1_0),(36,avI x1_1),(37,avI x1_2)] [(1,Root.mk yS Mk.no x1_3 true)] 
def impl_SchemaOk_Q1_0 (v0_0:Bool) (v0_1:tSch):St:=stq 85 [(1,AV.addr 1 []),(2,AV.val Ty.bool v0_0)] [(1,Root.mk yS Mk.no v0_1 true)] 
def impl_SchemaOk_Q1_1 (v1_0:tSch):St:=stq 85 [(1,AV.addr 1 [])] [(1,Root.mk yS Mk.no v1_0 true)] 
theorem impl_SchemaOk_SB0 (D:DX)(n:Nat) (m:Nat) (K:Ex→St→Option (Out ctx 82)) (x0:tCols) (x1:Int) (x2:Int) (x3:tSch) :
  LQ funcTab D n 82 [.r,.l,.r,.l] (m+1) (impl_SchemaOk_Q0 x0 x1 x2 x3) K=impl_SchemaOk_b0 D n (fun x0 x1 x2 x3=>LQ funcTab D n 82 [.r,.l,.r,.l] m (impl_SchemaOk_Q0 x0 x1 x2 x3) K) (fun v0_0 v0_1=>K (Ex.ret) (impl_SchemaOk_Q0_0 v0_0 v0_1)) (fun v1_0=>K (Ex.exit 0) (impl_SchemaOk_Q0_1 v1_0)) x0 x1 x2 x3:=by kernel_rfl
theorem impl_SchemaOk_EL0 (D:DX)(n:Nat) (K:Ex→St→Option (Out ctx 82)):∀ (m:Nat) (x0:tCols) (x1:Int) (x2:Int) (x3:tSch),LQ funcTab D n 82 [.r,.l,.r,.l] m (impl_SchemaOk_Q0 x0 x1 x2 x3) K=impl_SchemaOk_L0 D n (fun v0_0 v0_1=>K (Ex.ret) (impl_SchemaOk_Q0_0 v0_0 v0_1)) (fun v1_0=>K (Ex.exit 0) (impl_SchemaOk_Q0_1 v1_0)) m x0 x1 x2 x3
  | 0,x0,x1,x2,x3=>LQ_zero ..
  | m+1,x0,x1,x2,x3=>by
    have ih:(fun x0 x1 x2 x3=>LQ funcTab D n 82 [.r,.l,.r,.l] m (impl_SchemaOk_Q0 x0 x1 x2 x3) K)=impl_SchemaOk_L0 D n (fun v0_0 v0_1=>K (Ex.ret) (impl_SchemaOk_Q0_0 v0_0 v0_1)) (fun v1_0=>K (Ex.exit 0) (impl_SchemaOk_Q0_1 v1_0)) m:=by funext x0 x1 x2 x3;exact impl_SchemaOk_EL0 D n K m x0 x1 x2 x3
    rw[impl_SchemaOk_SB0]
    rw[ih];rfl
theorem impl_SchemaOk_SB1 (D:DX)(n:Nat) (m:Nat) (K:Ex→St→Option (Out ctx 82)) (x1_0:tIxs) (x1_1:Int) (x1_2:Int) (x1_3:tSch) :
  LQ funcTab D n 82 [.r,.r,.l,.r,.l] (m+1) (impl_SchemaOk_Q1 x1_0 x1_1 x1_2 x1_3) K=impl_SchemaOk_b1 D n (fun x1_0 x1_1 x1_2 x1_3=>LQ funcTab D n 82 [.r,.r,.l,.r,.l] m (impl_SchemaOk_Q1 x1_0 x1_1 x1_2 x1_3) K) (fun v0_0 v0_1=>K (Ex.ret) (impl_SchemaOk_Q1_0 v0_0 v0_1)) (fun v1_0=>K (Ex.exit 2) (impl_SchemaOk_Q1_1 v1_0)) x1_0 x1_1 x1_2 x1_3:=by kernel_rfl
theorem impl_SchemaOk_EL1 (D:DX)(n:Nat) (K:Ex→St→Option (Out ctx 82)):∀ (m:Nat) (x1_0:tIxs) (x1_1:Int) (x1_2:Int) (x1_3:tSch),LQ funcTab D n 82 [.r,.r,.l,.r,.l] m (impl_SchemaOk_Q1 x1_0 x1_1 x1_2 x1_3) K=impl_SchemaOk_L1 D n (fun v0_0 v0_1=>K (Ex.ret) (impl_SchemaOk_Q1_0 v0_0 v0_1)) (fun v1_0=>K (Ex.exit 2) (impl_SchemaOk_Q1_1 v1_0)) m x1_0 x1_1 x1_2 x1_3
  | 0,x1_0,x1_1,x1_2,x1_3=>LQ_zero ..
  | m+1,x1_0,x1_1,x1_2,x1_3=>by
    have ih:(fun x1_0 x1_1 x1_2 x1_3=>LQ funcTab D n 82 [.r,.r,.l,.r,.l] m (impl_SchemaOk_Q1 x1_0 x1_1 x1_2 x1_3) K)=impl_SchemaOk_L1 D n (fun v0_0 v0_1=>K (Ex.ret) (impl_SchemaOk_Q1_0 v0_0 v0_1)) (fun v1_0=>K (Ex.exit 2) (impl_SchemaOk_Q1_1 v1_0)) m:=by funext x1_0 x1_1 x1_2 x1_3;exact impl_SchemaOk_EL1 D n K m x1_0 x1_1 x1_2 x1_3
    rw[impl_SchemaOk_SB1]
    rw[ih];rfl
theorem impl_SchemaOk_X1_0 (D:DX)(n:Nat) (v0_0:Bool) (v0_1:tSch) :
  (CQ funcTab D n 82 [] [.r,.r,.l,.r,.l] (lastK funcTab 82)) (Ex.ret) (impl_SchemaOk_Q1_0 v0_0 v0_1)=impl_SchemaOk_x1_0 D n v0_0 v0_1:=by kernel_rfl
theorem impl_SchemaOk_X1_1 (D:DX)(n:Nat) (v1_0:tSch) :
  (CQ funcTab D n 82 [] [.r,.r,.l,.r,.l] (lastK funcTab 82)) (Ex.exit 2) (impl_SchemaOk_Q1_1 v1_0)=impl_SchemaOk_x1_1 D n v1_0:=by kernel_rfl
theorem impl_SchemaOk_ELP1 (D:DX)(n:Nat) (x1_0:tIxs) (x1_1:Int) (x1_2:Int) (x1_3:tSch) :
  LQ funcTab D n 82 [.r,.r,.l,.r,.l] n (impl_SchemaOk_Q1 x1_0 x1_1 x1_2 x1_3) (CQ funcTab D n 82 [] [.r,.r,.l,.r,.l] (lastK funcTab 82))=impl_SchemaOk_LP1 D n x1_0 x1_1 x1_2 x1_3:=by
  rw[impl_SchemaOk_EL1]
  simp only[impl_SchemaOk_X1_0,impl_SchemaOk_X1_1]
  rfl
theorem impl_SchemaOk_X0_0 (D:DX)(n:Nat) (v0_0:Bool) (v0_1:tSch) :
  (CQ funcTab D n 82 [] [.r,.l,.r,.l] (lastK funcTab 82)) (Ex.ret) (impl_SchemaOk_Q0_0 v0_0 v0_1)=impl_SchemaOk_x0_0 D n v0_0 v0_1:=by kernel_rfl
theorem impl_SchemaOk_X0_1 (D:DX)(n:Nat) (v1_0:tSch) :
  (CQ funcTab D n 82 [] [.r,.l,.r,.l] (lastK funcTab 82)) (Ex.exit 0) (impl_SchemaOk_Q0_1 v1_0)=impl_SchemaOk_x0_1 D n (fun x1_0 x1_1 x1_2 x1_3=>LQ funcTab D n 82 [.r,.r,.l,.r,.l] n (impl_SchemaOk_Q1 x1_0 x1_1 x1_2 x1_3) (CQ funcTab D n 82 [] [.r,.r,.l,.r,.l] (lastK funcTab 82))) v1_0:=by kernel_rfl
theorem impl_SchemaOk_ELP0 (D:DX)(n:Nat) (x0:tCols) (x1:Int) (x2:Int) (x3:tSch) :
  LQ funcTab D n 82 [.r,.l,.r,.l] n (impl_SchemaOk_Q0 x0 x1 x2 x3) (CQ funcTab D n 82 [] [.r,.l,.r,.l] (lastK funcTab 82))=impl_SchemaOk_LP0 D n x0 x1 x2 x3:=by
  rw[impl_SchemaOk_EL0]
  simp only[impl_SchemaOk_X0_0,impl_SchemaOk_X0_1,impl_SchemaOk_ELP1]
  rfl
theorem E_impl_SchemaOk (D:DX)(n:Nat) (a0:tSch):rfC funcTab D n 82 (a0,())=F_impl_SchemaOk D n a0:=by
  have h:rfC funcTab D n 82 (a0,())=impl_SchemaOk_e D n (fun x0 x1 x2 x3=>LQ funcTab D n 82 [.r,.l,.r,.l] n (impl_SchemaOk_Q0 x0 x1 x2 x3) (CQ funcTab D n 82 [] [.r,.l,.r,.l] (lastK funcTab 82))) a0:=by kernel_rfl
  rw[h]
  simp only[impl_SchemaOk_ELP0]
  rfl

def impl_copyRelation_e (D:DX)(n:Nat) (a0:(tSch)×tRows×Unit):Option ((((tSch)×tRows×Unit)×Unit)×Unit):=bindD (C_impl_copySchema D (Prod.fst a0)) fun b↦bindD (C_impl_copyTuples D (Prod.fst (Prod.snd a0))) fun b_1↦some ((((Prod.fst (Prod.fst (Prod.fst b)),Prod.fst (Prod.snd (Prod.fst (Prod.fst b))),Prod.fst (Prod.snd (Prod.snd (Prod.fst (Prod.fst b)))),()),Prod.fst (Prod.fst b_1),()),()),())
def F_impl_copyRelation (D:DX)(n:Nat) (a0:(tSch)×tRows×Unit):Option ((((tSch)×tRows×Unit)×Unit)×Unit):=impl_copyRelation_e D n a0
theorem E_impl_copyRelation (D:DX)(n:Nat) (a0:(tSch)×
  tRows×Unit):rfC funcTab D n 83 (a0,())=F_impl_copyRelation D n a0:=by kernel_rfl

def impl_keyAt_e (D:DX)(n:Nat) (a0:(tSch)×tRows×Unit) (a1:tVals):Option ((Int×Unit)×Unit):=bindD (C_slices_IndexFunc_impl_Value_impl_Value D (Prod.fst (Prod.snd a0)) (Clo.mk 153 [CapV.rptr (Ty.pair (Ty.pair (Ty.sl (Ty.pair Ty.str (Ty.pair (Ty.int IntKind.i64) (Ty.pair Ty.bool Ty.unit)))) (Ty.pair (Ty.sl (Ty.int IntKind.i64)) (Ty.pair (Ty.sl (Ty.pair Ty.str (Ty.pair (Ty.sl (Ty.int IntKind.i64)) (Ty.pair Ty.bool Ty.unit)))) Ty.unit))) (Ty.pair (Ty.sl (Ty.sl (Ty.pair (Ty.int IntKind.i64) (Ty.pair (Ty.int IntKind.i64) (Ty.pair Ty.str Ty.unit))))) Ty.unit)) a0,CapV.rptr (Ty.sl (Ty.pair (Ty.int IntKind.i64) (Ty.pair (Ty.int IntKind.i64) (Ty.pair Ty.str Ty.unit)))) a1])) fun b↦some ((Prod.fst (Prod.fst b),()),())
def F_impl_keyAt (D:DX)(n:Nat) (a0:(tSch)×tRows×Unit) (a1:tVals):Option ((Int×Unit)×Unit):=impl_keyAt_e D n a0 a1
theorem E_impl_keyAt (D:DX)(n:Nat) (a0:(tSch)×
  tRows×Unit) (a1:tVals):rfC funcTab D n 84 (a0,(a1,()))=F_impl_keyAt D n a0 a1:=by kernel_rfl

def slices_IndexFunc_impl_Value_impl_Value_b0 (D:DX)(n:Nat) (a1:Clo) (go:tRows→Int→Int→Option ((Int×Unit)×Unit)) (K0:Int→Option ((Int×Unit)×Unit)) (K1:Option ((Int×Unit)×Unit)) (x0:tRows) (x1:Int) (x2:Int):Option ((Int×Unit)×Unit):=br (decide (x2<x1)) (br (decide (0≤x2)&&decide (x2<(↑(List.length x0):Int))) (bindD (applyClo ctx D a1 [CapV.val (Ty.sl (Ty.pair (Ty.int IntKind.i64) (Ty.pair (Ty.int IntKind.i64) (Ty.pair Ty.str Ty.unit)))) (List.getD x0 (Int.toNat x2) [])] Ty.bool) fun b↦br b (K0 x2) (go x0 x1 (IntKind.wrap IntKind.i64 (x2+1)))) none) K1
def slices_IndexFunc_impl_Value_impl_Value_L0 (D:DX)(n:Nat) (a1:Clo) (K0:Int→Option ((Int×Unit)×Unit)) (K1:Option ((Int×Unit)×Unit)):Nat→(tRows)→(Int)→(Int)→Option ((Int×Unit)×Unit) | 0=>(fun x0 x1 x2=>none) | m+1=>(fun x0 x1 x2=>slices_IndexFunc_impl_Value_impl_Value_b0 D n a1 (slices_IndexFunc_impl_Value_impl_Value_L0 D n a1 K0 K1 m) K0 K1 x0 x1 x2)
def slices_IndexFunc_impl_Value_impl_Value_x0_0 (D:DX)(n:Nat) (a1:Clo) (v0_0:Int):Option ((Int×Unit)×Unit):=some ((v0_0,()),())
def slices_IndexFunc_impl_Value_impl_Value_x0_1 (D:DX)(n:Nat) (a1:Clo):Option ((Int×Unit)×Unit):=some ((-1,()),())
def slices_IndexFunc_impl_Value_impl_Value_LP0 (D:DX)(n:Nat) (a1:Clo):(tRows)→(Int)→(Int)→Option ((Int×Unit)×Unit):=(fun x0 x1 x2=>slices_IndexFunc_impl_Value_impl_Value_L0 D n a1 (fun v0_0=>slices_IndexFunc_impl_Value_impl_Value_x0_0 D n a1 v0_0) (slices_IndexFunc_impl_Value_impl_Value_x0_1 D n a1) n x0 x1 x2)
def slices_IndexFunc_impl_Value_impl_Value_e (D:DX)(n:Nat) (a1:Clo) (lp0:tRows→Int→Int→Option ((Int×Unit)×Unit)) (a0:tRows):Option ((Int×Unit)×Unit):=lp0 a0 (↑(List.length a0):Int) 0
def F_slices_IndexFunc_impl_Value_impl_Value (D:DX)(n:Nat) (a0:tRows) (a1:Clo):Option ((Int×Unit)×Unit):=slices_IndexFunc_impl_Value_impl_Value_e D n a1 (slices_IndexFunc_impl_Value_impl_Value_LP0 D n a1) a0
def slices_IndexFunc_impl_Value_impl_Value_Q0 (a1:Clo) (x0:tRows) (x1:Int) (x2:Int):St:=stq 19 [(0,AV.val (Ty.sl (Ty.sl yV)) x0),(1,AV.cloV a1),(7,avI x1),(8,avI x2)] [] 
def slices_IndexFunc_impl_Value_impl_Value_Q0_0 (a1:Clo) (v0_0:Int):St:=stq 19 [(4,avI v0_0)] [] 
def slices_IndexFunc_impl_Value_impl_Value_Q0_1 (a1:Clo):St:=stq 19 [] [] 
theorem slices_IndexFunc_impl_Value_impl_Value_SB0 (D:DX)(n:Nat) (a1:Clo) (m:Nat) (K:Ex→St→Option (Out ctx 86)) (x0:tRows) (x1:Int) (x2:Int) :
  LQ funcTab D n 86 [.r,.l,.r,.l] (m+1) (slices_IndexFunc_impl_Value_impl_Value_Q0 a1 x0 x1 x2) K=slices_IndexFunc_impl_Value_impl_Value_b0 D n a1 (fun x0 x1 x2=>LQ funcTab D n 86 [.r,.l,.r,.l] m (slices_IndexFunc_impl_Value_impl_Value_Q0 a1 x0 x1 x2) K) (fun v0_0=>K (Ex.ret) (slices_IndexFunc_impl_Value_impl_Value_Q0_0 a1 v0_0)) (K (Ex.exit 0) (slices_IndexFunc_impl_Value_impl_Value_Q0_1 a1)) x0 x1 x2:=by kernel_rfl
theorem slices_IndexFunc_impl_Value_impl_Value_EL0 (D:DX)(n:Nat) (a1:Clo) (K:Ex→St→Option (Out ctx 86)):∀ (m:Nat) (x0:tRows) (x1:Int) (x2:Int),LQ funcTab D n 86 [.r,.l,.r,.l] m (slices_IndexFunc_impl_Value_impl_Value_Q0 a1 x0 x1 x2) K=slices_IndexFunc_impl_Value_impl_Value_L0 D n a1 (fun v0_0=>K (Ex.ret) (slices_IndexFunc_impl_Value_impl_Value_Q0_0 a1 v0_0)) (K (Ex.exit 0) (slices_IndexFunc_impl_Value_impl_Value_Q0_1 a1)) m x0 x1 x2
  | 0,x0,x1,x2=>LQ_zero ..
  | m+1,x0,x1,x2=>by
    have ih:(fun x0 x1 x2=>LQ funcTab D n 86 [.r,.l,.r,.l] m (slices_IndexFunc_impl_Value_impl_Value_Q0 a1 x0 x1 x2) K)=slices_IndexFunc_impl_Value_impl_Value_L0 D n a1 (fun v0_0=>K (Ex.ret) (slices_IndexFunc_impl_Value_impl_Value_Q0_0 a1 v0_0)) (K (Ex.exit 0) (slices_IndexFunc_impl_Value_impl_Value_Q0_1 a1)) m:=by funext x0 x1 x2;exact slices_IndexFunc_impl_Value_impl_Value_EL0 D n a1 K m x0 x1 x2
    rw[slices_IndexFunc_impl_Value_impl_Value_SB0]
    rw[ih];rfl
theorem slices_IndexFunc_impl_Value_impl_Value_X0_0 (D:DX)(n:Nat) (a1:Clo) (v0_0:Int) :
  (CQ funcTab D n 86 [] [.r,.l,.r,.l] (lastK funcTab 86)) (Ex.ret) (slices_IndexFunc_impl_Value_impl_Value_Q0_0 a1 v0_0)=slices_IndexFunc_impl_Value_impl_Value_x0_0 D n a1 v0_0:=by kernel_rfl
theorem slices_IndexFunc_impl_Value_impl_Value_X0_1 (D:DX)(n:Nat) (a1:Clo) :
  (CQ funcTab D n 86 [] [.r,.l,.r,.l] (lastK funcTab 86)) (Ex.exit 0) (slices_IndexFunc_impl_Value_impl_Value_Q0_1 a1)=slices_IndexFunc_impl_Value_impl_Value_x0_1 D n a1:=by kernel_rfl
theorem slices_IndexFunc_impl_Value_impl_Value_ELP0 (D:DX)(n:Nat) (a1:Clo) (x0:tRows) (x1:Int) (x2:Int) :
  LQ funcTab D n 86 [.r,.l,.r,.l] n (slices_IndexFunc_impl_Value_impl_Value_Q0 a1 x0 x1 x2) (CQ funcTab D n 86 [] [.r,.l,.r,.l] (lastK funcTab 86))=slices_IndexFunc_impl_Value_impl_Value_LP0 D n a1 x0 x1 x2:=by
  rw[slices_IndexFunc_impl_Value_impl_Value_EL0]
  simp only[slices_IndexFunc_impl_Value_impl_Value_X0_0,slices_IndexFunc_impl_Value_impl_Value_X0_1]
  rfl
theorem E_slices_IndexFunc_impl_Value_impl_Value (D:DX)(n:Nat) (a0:tRows) (a1:Clo):rfC funcTab D n 86 (a0,(a1,()))=F_slices_IndexFunc_impl_Value_impl_Value D n a0 a1:=by
  have h:rfC funcTab D n 86 (a0,(a1,()))=slices_IndexFunc_impl_Value_impl_Value_e D n a1 (fun x0 x1 x2=>LQ funcTab D n 86 [.r,.l,.r,.l] n (slices_IndexFunc_impl_Value_impl_Value_Q0 a1 x0 x1 x2) (CQ funcTab D n 86 [] [.r,.l,.r,.l] (lastK funcTab 86))) a0:=by kernel_rfl
  rw[h]
  simp only[slices_IndexFunc_impl_Value_impl_Value_ELP0]
  rfl

def slices_Clone_impl_Value_impl_Value_e (D:DX)(n:Nat) (a0:tVals):Option ((tVals×Unit)×Unit):=br (decide (Int.toNat (↑(List.length a0):Int)=0)) (both (some (([],()),())) (br (decide (0+List.length a0≤bound)) (some (([]++a0,()),())) none)) (br (decide (0+List.length a0≤bound)) (some (([]++a0,()),())) none)
def F_slices_Clone_impl_Value_impl_Value (D:DX)(n:Nat) (a0:tVals):Option ((tVals×Unit)×Unit):=slices_Clone_impl_Value_impl_Value_e D n a0
theorem E_slices_Clone_impl_Value_impl_Value (D:DX)(n:Nat) (a0:tVals):rfC funcTab D n 89 (a0,())=F_slices_Clone_impl_Value_impl_Value D n a0:=by kernel_rfl

def impl_Project_b0 (D:DX)(n:Nat) (go:tVals→List Int→Int→Int→tVals→Option ((tVals×Unit)×Unit)) (K0:tVals→Option ((tVals×Unit)×Unit)) (x0:tVals) (x1:List Int) (x2:Int) (x3:Int) (x4:tVals):Option ((tVals×Unit)×Unit):=br (decide (x3<x2)) (br (decide (0≤x3)&&decide (x3<(↑(List.length x1):Int))) (bindD (C_impl_from D (List.getD x1 (Int.toNat x3) 0) 0 (IntKind.wrap IntKind.i64 ((↑(List.length x0):Int) - 1))) fun b↦br (Prod.fst (Prod.fst b)) (br (decide (0≤List.getD x1 (Int.toNat x3) 0)&&decide (List.getD x1 (Int.toNat x3) 0<(↑(List.length x0):Int))) (br (decide (List.length x4+1≤bound)) (go x0 x1 x2 (IntKind.wrap IntKind.i64 (x3+1)) (x4++[List.getD x0 (Int.toNat (List.getD x1 (Int.toNat x3) 0)) (0,0,ByteArray.empty,())])) none) none) (go x0 x1 x2 (IntKind.wrap IntKind.i64 (x3+1)) x4)) none) (K0 x4)
def impl_Project_L0 (D:DX)(n:Nat) (K0:tVals→Option ((tVals×Unit)×Unit)):Nat→(tVals)→(List Int)→(Int)→(Int)→(tVals)→Option ((tVals×Unit)×Unit) | 0=>(fun x0 x1 x2 x3 x4=>none) | m+1=>(fun x0 x1 x2 x3 x4=>impl_Project_b0 D n (impl_Project_L0 D n K0 m) K0 x0 x1 x2 x3 x4)
def impl_Project_x0_0 (D:DX)(n:Nat) (v0_0:tVals):Option ((tVals×Unit)×Unit):=some ((v0_0,()),())
def impl_Project_LP0 (D:DX)(n:Nat):(tVals)→(List Int)→(Int)→(Int)→(tVals)→Option ((tVals×Unit)×Unit):=(fun x0 x1 x2 x3 x4=>impl_Project_L0 D n (fun v0_0=>impl_Project_x0_0 D n v0_0) n x0 x1 x2 x3 x4)
def impl_Project_e (D:DX)(n:Nat) (lp0:tVals→List Int→Int→Int→tVals→Option ((tVals×Unit)×Unit)) (a0:tVals) (a1:List Int):Option ((tVals×Unit)×Unit):=lp0 a0 a1 (↑(List.length a1):Int) 0 []
def F_impl_Project (D:DX)(n:Nat) (a0:tVals) (a1:List Int):Option ((tVals×Unit)×Unit):=impl_Project_e D n (impl_Project_LP0 D n) a0 a1
def impl_Project_Q0 (x0:tVals) (x1:List Int) (x2:Int) (x3:Int) (x4:tVals):St:=stq 29 [(0,AV.val (Ty.sl yV) x0),(5,AV.brw 5 [] 0),(9,AV.val (Ty.sl yI) x1),(10,avI x2),(11,avI x3)] [(5,Root.mk (Ty.sl yV) (Mk.own 0 (Mk.pr Mk.no (Mk.pr Mk.no (Mk.pr Mk.no Mk.no)))) x4 false)] 
def impl_Project_Q0_0 (v0_0:tVals):St:=stq 29 [(5,AV.brw 5 [] 0)] [(5,Root.mk (Ty.sl yV) (Mk.own 0 (Mk.pr Mk.no (Mk.pr Mk.no (Mk.pr Mk.no Mk.no)))) v0_0 false)] 
theorem impl_Project_SB0 (D:DX)(n:Nat) (m:Nat) (K:Ex→St→Option (Out ctx 94)) (x0:tVals) (x1:List Int) (x2:Int) (x3:Int) (x4:tVals) :
  LQ funcTab D n 94 [.r,.r,.l,.r,.l] (m+1) (impl_Project_Q0 x0 x1 x2 x3 x4) K=impl_Project_b0 D n (fun x0 x1 x2 x3 x4=>LQ funcTab D n 94 [.r,.r,.l,.r,.l] m (impl_Project_Q0 x0 x1 x2 x3 x4) K) (fun v0_0=>K (Ex.exit 0) (impl_Project_Q0_0 v0_0)) x0 x1 x2 x3 x4:=by kernel_rfl
theorem impl_Project_EL0 (D:DX)(n:Nat) (K:Ex→St→Option (Out ctx 94)):∀ (m:Nat) (x0:tVals) (x1:List Int) (x2:Int) (x3:Int) (x4:tVals),LQ funcTab D n 94 [.r,.r,.l,.r,.l] m (impl_Project_Q0 x0 x1 x2 x3 x4) K=impl_Project_L0 D n (fun v0_0=>K (Ex.exit 0) (impl_Project_Q0_0 v0_0)) m x0 x1 x2 x3 x4
  | 0,x0,x1,x2,x3,x4=>LQ_zero ..
  | m+1,x0,x1,x2,x3,x4=>by
    have ih:(fun x0 x1 x2 x3 x4=>LQ funcTab D n 94 [.r,.r,.l,.r,.l] m (impl_Project_Q0 x0 x1 x2 x3 x4) K)=impl_Project_L0 D n (fun v0_0=>K (Ex.exit 0) (impl_Project_Q0_0 v0_0)) m:=by funext x0 x1 x2 x3 x4;exact impl_Project_EL0 D n K m x0 x1 x2 x3 x4
    rw[impl_Project_SB0]
    rw[ih];rfl
theorem impl_Project_X0_0 (D:DX)(n:Nat) (v0_0:tVals) :
  (CQ funcTab D n 94 [] [.r,.r,.l,.r,.l] (lastK funcTab 94)) (Ex.exit 0) (impl_Project_Q0_0 v0_0)=impl_Project_x0_0 D n v0_0:=by kernel_rfl
theorem impl_Project_ELP0 (D:DX)(n:Nat) (x0:tVals) (x1:List Int) (x2:Int) (x3:Int) (x4:tVals) :
  LQ funcTab D n 94 [.r,.r,.l,.r,.l] n (impl_Project_Q0 x0 x1 x2 x3 x4) (CQ funcTab D n 94 [] [.r,.r,.l,.r,.l] (lastK funcTab 94))=impl_Project_LP0 D n x0 x1 x2 x3 x4:=by
  rw[impl_Project_EL0]
  simp only[impl_Project_X0_0]
  rfl
theorem E_impl_Project (D:DX)(n:Nat) (a0:tVals) (a1:List Int):rfC funcTab D n 94 (a0,(a1,()))=F_impl_Project D n a0 a1:=by
  have h:rfC funcTab D n 94 (a0,(a1,()))=impl_Project_e D n (fun x0 x1 x2 x3 x4=>LQ funcTab D n 94 [.r,.r,.l,.r,.l] n (impl_Project_Q0 x0 x1 x2 x3 x4) (CQ funcTab D n 94 [] [.r,.r,.l,.r,.l] (lastK funcTab 94))) a0 a1:=by kernel_rfl
  rw[h]
  simp only[impl_Project_ELP0]
  rfl

def spec_l21Copy_e (D:DX)(n:Nat) (a0:(tSch)×tRows×Unit):Option ((((tSch)×tRows×Unit)×Unit)×Unit):=bindD (C_spec_l19Copy D (Prod.fst a0)) fun b↦bindD (C_spec_l21Rows D (Prod.fst (Prod.snd a0))) fun b_1↦some ((((Prod.fst (Prod.fst (Prod.fst b)),Prod.fst (Prod.snd (Prod.fst (Prod.fst b))),Prod.fst (Prod.snd (Prod.snd (Prod.fst (Prod.fst b)))),()),Prod.fst (Prod.fst b_1),()),()),())
def F_spec_l21Copy (D:DX)(n:Nat) (a0:(tSch)×tRows×Unit):Option ((((tSch)×tRows×Unit)×Unit)×Unit):=spec_l21Copy_e D n a0
theorem E_spec_l21Copy (D:DX)(n:Nat) (a0:(tSch)×
  tRows×Unit):rfC funcTab D n 99 (a0,())=F_spec_l21Copy D n a0:=by kernel_rfl

def spec_RowOk_b0 (D:DX)(n:Nat) (go:tVals→Int→tSch→Option ((Bool×Unit)×Unit)) (K0:Bool→Option ((Bool×Unit)×Unit)) (K1:Option ((Bool×Unit)×Unit)) (x0:tVals) (x1:Int) (x2:tSch):Option ((Bool×Unit)×Unit):=br (decide (x1<(↑(List.length x0):Int))) (br (decide (0≤x1)&&decide (x1<(↑(List.length x0):Int))) (bindD (C_spec_ValueOk D (List.getD x0 (Int.toNat x1) (0,0,ByteArray.empty,()))) fun b↦br (!Prod.fst (Prod.fst b)) (K0 false) (br (decide (0≤x1)&&decide (x1<(↑(List.length x0):Int))) (br (decide (0≤x1)&&decide (x1<(↑(List.length (Prod.fst x2)):Int))) (br (Prod.fst (List.getD x0 (Int.toNat x1) (0,0,ByteArray.empty,())) != Prod.fst (Prod.snd (List.getD (Prod.fst x2) (Int.toNat x1) (ByteArray.empty,0,false,())))) (br (decide (0≤x1)&&decide (x1<(↑(List.length (Prod.fst x2)):Int))) (br (Prod.fst (Prod.snd (Prod.snd (List.getD (Prod.fst x2) (Int.toNat x1) (ByteArray.empty,0,false,()))))) (br (decide (0≤x1)&&decide (x1<(↑(List.length x0):Int))) (br (!decide (Prod.fst (List.getD x0 (Int.toNat x1) (0,0,ByteArray.empty,()))=0)) (K0 false) (go x0 (IntKind.wrap IntKind.i64 (x1+1)) x2)) none) (K0 false)) none) (go x0 (IntKind.wrap IntKind.i64 (x1+1)) x2)) none) none)) none) K1
def spec_RowOk_L0 (D:DX)(n:Nat) (K0:Bool→Option ((Bool×Unit)×Unit)) (K1:Option ((Bool×Unit)×Unit)):Nat→(tVals)→(Int)→(tSch)→Option ((Bool×Unit)×Unit) | 0=>(fun x0 x1 x2=>none) | m+1=>(fun x0 x1 x2=>spec_RowOk_b0 D n (spec_RowOk_L0 D n K0 K1 m) K0 K1 x0 x1 x2)
def spec_RowOk_x0_0 (D:DX)(n:Nat) (v0_0:Bool):Option ((Bool×Unit)×Unit):=some ((v0_0,()),())
def spec_RowOk_x0_1 (D:DX)(n:Nat):Option ((Bool×Unit)×Unit):=some ((true,()),())
def spec_RowOk_LP0 (D:DX)(n:Nat):(tVals)→(Int)→(tSch)→Option ((Bool×Unit)×Unit):=(fun x0 x1 x2=>spec_RowOk_L0 D n (fun v0_0=>spec_RowOk_x0_0 D n v0_0) (spec_RowOk_x0_1 D n) n x0 x1 x2)
def spec_RowOk_e (D:DX)(n:Nat) (lp0:tVals→Int→tSch→Option ((Bool×Unit)×Unit)) (a0:tSch) (a1:tVals):Option ((Bool×Unit)×Unit):=bindD (C_spec_SchemaOk D a0) fun b↦br (bif !Prod.fst (Prod.fst b) then true else (↑(List.length a1):Int) != (↑(List.length (Prod.fst a0)):Int)) (some ((false,()),())) (lp0 a1 0 a0)
def F_spec_RowOk (D:DX)(n:Nat) (a0:tSch) (a1:tVals):Option ((Bool×Unit)×Unit):=spec_RowOk_e D n (spec_RowOk_LP0 D n) a0 a1
def spec_RowOk_Q0 (x0:tVals) (x1:Int) (x2:tSch):St:=stq 60 [(1,AV.val (Ty.sl yV) x0),(2,AV.addr 2 []),(5,avI x1)] [(2,Root.mk yS Mk.no x2 true)] 
def spec_RowOk_Q0_0 (v0_0:Bool):St:=stq 60 [(4,AV.val Ty.bool v0_0)] [] 
def spec_RowOk_Q0_1:St:=stq 60 [] [] 
theorem spec_RowOk_SB0 (D:DX)(n:Nat) (m:Nat) (K:Ex→St→Option (Out ctx 100)) (x0:tVals) (x1:Int) (x2:tSch) :
  LQ funcTab D n 100 [.r,.r,.l,.r,.l] (m+1) (spec_RowOk_Q0 x0 x1 x2) K=spec_RowOk_b0 D n (fun x0 x1 x2=>LQ funcTab D n 100 [.r,.r,.l,.r,.l] m (spec_RowOk_Q0 x0 x1 x2) K) (fun v0_0=>K (Ex.ret) (spec_RowOk_Q0_0 v0_0)) (K (Ex.exit 0) (spec_RowOk_Q0_1)) x0 x1 x2:=by kernel_rfl
theorem spec_RowOk_EL0 (D:DX)(n:Nat) (K:Ex→St→Option (Out ctx 100)):∀ (m:Nat) (x0:tVals) (x1:Int) (x2:tSch),LQ funcTab D n 100 [.r,.r,.l,.r,.l] m (spec_RowOk_Q0 x0 x1 x2) K=spec_RowOk_L0 D n (fun v0_0=>K (Ex.ret) (spec_RowOk_Q0_0 v0_0)) (K (Ex.exit 0) (spec_RowOk_Q0_1)) m x0 x1 x2
  | 0,x0,x1,x2=>LQ_zero ..
  | m+1,x0,x1,x2=>by
    have ih:(fun x0 x1 x2=>LQ funcTab D n 100 [.r,.r,.l,.r,.l] m (spec_RowOk_Q0 x0 x1 x2) K)=spec_RowOk_L0 D n (fun v0_0=>K (Ex.ret) (spec_RowOk_Q0_0 v0_0)) (K (Ex.exit 0) (spec_RowOk_Q0_1)) m:=by funext x0 x1 x2;exact spec_RowOk_EL0 D n K m x0 x1 x2
    rw[spec_RowOk_SB0]
    rw[ih];rfl
theorem spec_RowOk_X0_0 (D:DX)(n:Nat) (v0_0:Bool) :
  (CQ funcTab D n 100 [] [.r,.r,.l,.r,.l] (lastK funcTab 100)) (Ex.ret) (spec_RowOk_Q0_0 v0_0)=spec_RowOk_x0_0 D n v0_0:=by kernel_rfl
theorem spec_RowOk_X0_1 (D:DX)(n:Nat) :
  (CQ funcTab D n 100 [] [.r,.r,.l,.r,.l] (lastK funcTab 100)) (Ex.exit 0) (spec_RowOk_Q0_1)=spec_RowOk_x0_1 D n:=by kernel_rfl
theorem spec_RowOk_ELP0 (D:DX)(n:Nat) (x0:tVals) (x1:Int) (x2:tSch) :
  LQ funcTab D n 100 [.r,.r,.l,.r,.l] n (spec_RowOk_Q0 x0 x1 x2) (CQ funcTab D n 100 [] [.r,.r,.l,.r,.l] (lastK funcTab 100))=spec_RowOk_LP0 D n x0 x1 x2:=by
  rw[spec_RowOk_EL0]
  simp only[spec_RowOk_X0_0,spec_RowOk_X0_1]
  rfl
theorem E_spec_RowOk (D:DX)(n:Nat) (a0:tSch) (a1:tVals):rfC funcTab D n 100 (a0,(a1,()))=F_spec_RowOk D n a0 a1:=by
  have h:rfC funcTab D n 100 (a0,(a1,()))=spec_RowOk_e D n (fun x0 x1 x2=>LQ funcTab D n 100 [.r,.r,.l,.r,.l] n (spec_RowOk_Q0 x0 x1 x2) (CQ funcTab D n 100 [] [.r,.r,.l,.r,.l] (lastK funcTab 100))) a0 a1:=by kernel_rfl
  rw[h]
  simp only[spec_RowOk_ELP0]
  rfl

def spec_l21At_b0 (D:DX)(n:Nat) (go:tVals→Int→(tSch)×tRows×Unit→Option ((Int×Unit)×Unit)) (K0:Int→Option ((Int×Unit)×Unit)) (K1:Option ((Int×Unit)×Unit)) (x0:tVals) (x1:Int) (x2:(tSch)×tRows×Unit):Option ((Int×Unit)×Unit):=br (decide (x1<(↑(List.length (Prod.fst (Prod.snd x2))):Int))) (br (decide (0≤x1)&&decide (x1<(↑(List.length (Prod.fst (Prod.snd x2))):Int))) (bindD (C_spec_KeyOfRow D (Prod.fst x2) (List.getD (Prod.fst (Prod.snd x2)) (Int.toNat x1) [])) fun b↦bindD (C_spec_l18Same D (Prod.fst (Prod.fst b)) x0) fun b↦br (Prod.fst (Prod.fst b)) (K0 x1) (go x0 (IntKind.wrap IntKind.i64 (x1+1)) x2)) none) K1
def spec_l21At_L0 (D:DX)(n:Nat) (K0:Int→Option ((Int×Unit)×Unit)) (K1:Option ((Int×Unit)×Unit)):Nat→(tVals)→(Int)→((tSch)×tRows×Unit)→Option ((Int×Unit)×Unit) | 0=>(fun x0 x1 x2=>none) | m+1=>(fun x0 x1 x2=>spec_l21At_b0 D n (spec_l21At_L0 D n K0 K1 m) K0 K1 x0 x1 x2)
def spec_l21At_x0_0 (D:DX)(n:Nat) (v0_0:Int):Option ((Int×Unit)×Unit):=some ((v0_0,()),())
def spec_l21At_x0_1 (D:DX)(n:Nat):Option ((Int×Unit)×Unit):=some ((-1,()),())
def spec_l21At_LP0 (D:DX)(n:Nat):(tVals)→(Int)→((tSch)×tRows×Unit)→Option ((Int×Unit)×Unit):=(fun x0 x1 x2=>spec_l21At_L0 D n (fun v0_0=>spec_l21At_x0_0 D n v0_0) (spec_l21At_x0_1 D n) n x0 x1 x2)
def spec_l21At_e (D:DX)(n:Nat) (lp0:tVals→Int→(tSch)×tRows×Unit→Option ((Int×Unit)×Unit)) (a0:(tSch)×tRows×Unit) (a1:tVals):Option ((Int×Unit)×Unit):=lp0 a1 0 a0
def F_spec_l21At (D:DX)(n:Nat) (a0:(tSch)×tRows×Unit) (a1:tVals):Option ((Int×Unit)×Unit):=spec_l21At_e D n (spec_l21At_LP0 D n) a0 a1
def spec_l21At_Q0 (x0:tVals) (x1:Int) (x2:(tSch)×tRows×Unit):St:=stq 24 [(1,AV.val (Ty.sl yV) x0),(2,AV.addr 2 []),(5,avI x1)] [(2,Root.mk (Ty.pair yS (Ty.pair (Ty.sl (Ty.sl yV)) Ty.unit)) Mk.no x2 true)] 
def spec_l21At_Q0_0 (v0_0:Int):St:=stq 24 [(4,avI v0_0)] [] 
def spec_l21At_Q0_1:St:=stq 24 [] [] 
theorem spec_l21At_SB0 (D:DX)(n:Nat) (m:Nat) (K:Ex→St→Option (Out ctx 101)) (x0:tVals) (x1:Int) (x2:(tSch)×
  tRows×Unit) :
  LQ funcTab D n 101 [.r,.l,.r,.l] (m+1) (spec_l21At_Q0 x0 x1 x2) K=spec_l21At_b0 D n (fun x0 x1 x2=>LQ funcTab D n 101 [.r,.l,.r,.l] m (spec_l21At_Q0 x0 x1 x2) K) (fun v0_0=>K (Ex.ret) (spec_l21At_Q0_0 v0_0)) (K (Ex.exit 0) (spec_l21At_Q0_1)) x0 x1 x2:=by kernel_rfl
theorem spec_l21At_EL0 (D:DX)(n:Nat) (K:Ex→St→Option (Out ctx 101)):∀ (m:Nat) (x0:tVals) (x1:Int) (x2:(tSch)×
  tRows×Unit),LQ funcTab D n 101 [.r,.l,.r,.l] m (spec_l21At_Q0 x0 x1 x2) K=spec_l21At_L0 D n (fun v0_0=>K (Ex.ret) (spec_l21At_Q0_0 v0_0)) (K (Ex.exit 0) (spec_l21At_Q0_1)) m x0 x1 x2
  | 0,x0,x1,x2=>LQ_zero ..
  | m+1,x0,x1,x2=>by
    have ih:(fun x0 x1 x2=>LQ funcTab D n 101 [.r,.l,.r,.l] m (spec_l21At_Q0 x0 x1 x2) K)=spec_l21At_L0 D n (fun v0_0=>K (Ex.ret) (spec_l21At_Q0_0 v0_0)) (K (Ex.exit 0) (spec_l21At_Q0_1)) m:=by funext x0 x1 x2;exact spec_l21At_EL0 D n K m x0 x1 x2
    rw[spec_l21At_SB0]
    rw[ih];rfl
theorem spec_l21At_X0_0 (D:DX)(n:Nat) (v0_0:Int) :
  (CQ funcTab D n 101 [] [.r,.l,.r,.l] (lastK funcTab 101)) (Ex.ret) (spec_l21At_Q0_0 v0_0)=spec_l21At_x0_0 D n v0_0:=by kernel_rfl
theorem spec_l21At_X0_1 (D:DX)(n:Nat) :
  (CQ funcTab D n 101 [] [.r,.l,.r,.l] (lastK funcTab 101)) (Ex.exit 0) (spec_l21At_Q0_1)=spec_l21At_x0_1 D n:=by kernel_rfl
theorem spec_l21At_ELP0 (D:DX)(n:Nat) (x0:tVals) (x1:Int) (x2:(tSch)×
  tRows×Unit) :
  LQ funcTab D n 101 [.r,.l,.r,.l] n (spec_l21At_Q0 x0 x1 x2) (CQ funcTab D n 101 [] [.r,.l,.r,.l] (lastK funcTab 101))=spec_l21At_LP0 D n x0 x1 x2:=by
  rw[spec_l21At_EL0]
  simp only[spec_l21At_X0_0,spec_l21At_X0_1]
  rfl
theorem E_spec_l21At (D:DX)(n:Nat) (a0:(tSch)×
  tRows×Unit) (a1:tVals):rfC funcTab D n 101 (a0,(a1,()))=F_spec_l21At D n a0 a1:=by
  have h:rfC funcTab D n 101 (a0,(a1,()))=spec_l21At_e D n (fun x0 x1 x2=>LQ funcTab D n 101 [.r,.l,.r,.l] n (spec_l21At_Q0 x0 x1 x2) (CQ funcTab D n 101 [] [.r,.l,.r,.l] (lastK funcTab 101))) a0 a1:=by kernel_rfl
  rw[h]
  simp only[spec_l21At_ELP0]
  rfl

def spec_KeyOfRow_e (D:DX)(n:Nat) (a0:tSch) (a1:tVals):Option ((tVals×Unit)×Unit):=bindD (C_spec_Project D a1 (Prod.fst (Prod.snd a0))) fun b↦some ((Prod.fst (Prod.fst b),()),())
def F_spec_KeyOfRow (D:DX)(n:Nat) (a0:tSch) (a1:tVals):Option ((tVals×Unit)×Unit):=spec_KeyOfRow_e D n a0 a1
theorem E_spec_KeyOfRow (D:DX)(n:Nat) (a0:tSch) (a1:tVals):rfC funcTab D n 102 (a0,(a1,()))=F_spec_KeyOfRow D n a0 a1:=by kernel_rfl

def spec_l21Others_b0 (D:DX)(n:Nat) (go:tVals→Int→Int→(tSch)×tRows×Unit→Option ((Bool×Unit)×Unit)) (K0:Bool→Option ((Bool×Unit)×Unit)) (K1:Option ((Bool×Unit)×Unit)) (x0:tVals) (x1:Int) (x2:Int) (x3:(tSch)×tRows×Unit):Option ((Bool×Unit)×Unit):=br (decide (x2<(↑(List.length (Prod.fst (Prod.snd x3))):Int))) (br (x2 != x1) (br (decide (0≤x2)&&decide (x2<(↑(List.length (Prod.fst (Prod.snd x3))):Int))) (bindD (C_spec_l21Clash D (Prod.fst x3) (List.getD (Prod.fst (Prod.snd x3)) (Int.toNat x2) []) x0) fun b↦br (Prod.fst (Prod.fst b)) (K0 true) (go x0 x1 (IntKind.wrap IntKind.i64 (x2+1)) x3)) none) (go x0 x1 (IntKind.wrap IntKind.i64 (x2+1)) x3)) K1
def spec_l21Others_L0 (D:DX)(n:Nat) (K0:Bool→Option ((Bool×Unit)×Unit)) (K1:Option ((Bool×Unit)×Unit)):Nat→(tVals)→(Int)→(Int)→((tSch)×tRows×Unit)→Option ((Bool×Unit)×Unit) | 0=>(fun x0 x1 x2 x3=>none) | m+1=>(fun x0 x1 x2 x3=>spec_l21Others_b0 D n (spec_l21Others_L0 D n K0 K1 m) K0 K1 x0 x1 x2 x3)
def spec_l21Others_x0_0 (D:DX)(n:Nat) (v0_0:Bool):Option ((Bool×Unit)×Unit):=some ((v0_0,()),())
def spec_l21Others_x0_1 (D:DX)(n:Nat):Option ((Bool×Unit)×Unit):=some ((false,()),())
def spec_l21Others_LP0 (D:DX)(n:Nat):(tVals)→(Int)→(Int)→((tSch)×tRows×Unit)→Option ((Bool×Unit)×Unit):=(fun x0 x1 x2 x3=>spec_l21Others_L0 D n (fun v0_0=>spec_l21Others_x0_0 D n v0_0) (spec_l21Others_x0_1 D n) n x0 x1 x2 x3)
def spec_l21Others_e (D:DX)(n:Nat) (lp0:tVals→Int→Int→(tSch)×tRows×Unit→Option ((Bool×Unit)×Unit)) (a0:(tSch)×tRows×Unit) (a1:tVals) (a2:Int):Option ((Bool×Unit)×Unit):=lp0 a1 a2 0 a0
def F_spec_l21Others (D:DX)(n:Nat) (a0:(tSch)×tRows×Unit) (a1:tVals) (a2:Int):Option ((Bool×Unit)×Unit):=spec_l21Others_e D n (spec_l21Others_LP0 D n) a0 a1 a2
def spec_l21Others_Q0 (x0:tVals) (x1:Int) (x2:Int) (x3:(tSch)×tRows×Unit):St:=stq 29 [(1,AV.val (Ty.sl yV) x0),(2,avI x1),(3,AV.addr 3 []),(7,avI x2)] [(3,Root.mk (Ty.pair yS (Ty.pair (Ty.sl (Ty.sl yV)) Ty.unit)) Mk.no x3 true)] 
def spec_l21Others_Q0_0 (v0_0:Bool):St:=stq 29 [(6,AV.val Ty.bool v0_0)] [] 
def spec_l21Others_Q0_1:St:=stq 29 [] [] 
theorem spec_l21Others_SB0 (D:DX)(n:Nat) (m:Nat) (K:Ex→St→Option (Out ctx 103)) (x0:tVals) (x1:Int) (x2:Int) (x3:(tSch)×
  tRows×Unit) :
  LQ funcTab D n 103 [.r,.l,.r,.l] (m+1) (spec_l21Others_Q0 x0 x1 x2 x3) K=spec_l21Others_b0 D n (fun x0 x1 x2 x3=>LQ funcTab D n 103 [.r,.l,.r,.l] m (spec_l21Others_Q0 x0 x1 x2 x3) K) (fun v0_0=>K (Ex.ret) (spec_l21Others_Q0_0 v0_0)) (K (Ex.exit 0) (spec_l21Others_Q0_1)) x0 x1 x2 x3:=by kernel_rfl
theorem spec_l21Others_EL0 (D:DX)(n:Nat) (K:Ex→St→Option (Out ctx 103)):∀ (m:Nat) (x0:tVals) (x1:Int) (x2:Int) (x3:(tSch)×
  tRows×Unit),LQ funcTab D n 103 [.r,.l,.r,.l] m (spec_l21Others_Q0 x0 x1 x2 x3) K=spec_l21Others_L0 D n (fun v0_0=>K (Ex.ret) (spec_l21Others_Q0_0 v0_0)) (K (Ex.exit 0) (spec_l21Others_Q0_1)) m x0 x1 x2 x3
  | 0,x0,x1,x2,x3=>LQ_zero ..
  | m+1,x0,x1,x2,x3=>by
    have ih:(fun x0 x1 x2 x3=>LQ funcTab D n 103 [.r,.l,.r,.l] m (spec_l21Others_Q0 x0 x1 x2 x3) K)=spec_l21Others_L0 D n (fun v0_0=>K (Ex.ret) (spec_l21Others_Q0_0 v0_0)) (K (Ex.exit 0) (spec_l21Others_Q0_1)) m:=by funext x0 x1 x2 x3;exact spec_l21Others_EL0 D n K m x0 x1 x2 x3
    rw[spec_l21Others_SB0]
    rw[ih];rfl
theorem spec_l21Others_X0_0 (D:DX)(n:Nat) (v0_0:Bool) :
  (CQ funcTab D n 103 [] [.r,.l,.r,.l] (lastK funcTab 103)) (Ex.ret) (spec_l21Others_Q0_0 v0_0)=spec_l21Others_x0_0 D n v0_0:=by kernel_rfl
theorem spec_l21Others_X0_1 (D:DX)(n:Nat) :
  (CQ funcTab D n 103 [] [.r,.l,.r,.l] (lastK funcTab 103)) (Ex.exit 0) (spec_l21Others_Q0_1)=spec_l21Others_x0_1 D n:=by kernel_rfl
theorem spec_l21Others_ELP0 (D:DX)(n:Nat) (x0:tVals) (x1:Int) (x2:Int) (x3:(tSch)×
  tRows×Unit) :
  LQ funcTab D n 103 [.r,.l,.r,.l] n (spec_l21Others_Q0 x0 x1 x2 x3) (CQ funcTab D n 103 [] [.r,.l,.r,.l] (lastK funcTab 103))=spec_l21Others_LP0 D n x0 x1 x2 x3:=by
  rw[spec_l21Others_EL0]
  simp only[spec_l21Others_X0_0,spec_l21Others_X0_1]
  rfl
theorem E_spec_l21Others (D:DX)(n:Nat) (a0:(tSch)×
  tRows×Unit) (a1:tVals) (a2:Int):rfC funcTab D n 103 (a0,(a1,(a2,())))=F_spec_l21Others D n a0 a1 a2:=by
  have h:rfC funcTab D n 103 (a0,(a1,(a2,())))=spec_l21Others_e D n (fun x0 x1 x2 x3=>LQ funcTab D n 103 [.r,.l,.r,.l] n (spec_l21Others_Q0 x0 x1 x2 x3) (CQ funcTab D n 103 [] [.r,.l,.r,.l] (lastK funcTab 103))) a0 a1 a2:=by kernel_rfl
  rw[h]
  simp only[spec_l21Others_ELP0]
  rfl

def spec_TupleLess_b0 (D:DX)(n:Nat) (go:tVals→tVals→Int→Option ((Bool×Unit)×Unit)) (K0:tVals→tVals→Bool→Option ((Bool×Unit)×Unit)) (K1:tVals→tVals→Option ((Bool×Unit)×Unit)) (x0:tVals) (x1:tVals) (x2:Int):Option ((Bool×Unit)×Unit):=br (bif decide (x2<(↑(List.length x0):Int)) then decide (x2<(↑(List.length x1):Int)) else false) (br (decide (0≤x2)&&decide (x2<(↑(List.length x0):Int))) (br (decide (0≤x2)&&decide (x2<(↑(List.length x1):Int))) (bindD (C_spec_ValueSame D (List.getD x0 (Int.toNat x2) (0,0,ByteArray.empty,())) (List.getD x1 (Int.toNat x2) (0,0,ByteArray.empty,()))) fun b↦br (!Prod.fst (Prod.fst b)) (br (decide (0≤x2)&&decide (x2<(↑(List.length x0):Int))) (br (decide (0≤x2)&&decide (x2<(↑(List.length x1):Int))) (bindD (C_spec_ValueLess D (List.getD x0 (Int.toNat x2) (0,0,ByteArray.empty,())) (List.getD x1 (Int.toNat x2) (0,0,ByteArray.empty,()))) fun b↦K0 x0 x1 (Prod.fst (Prod.fst b))) none) none) (go x0 x1 (IntKind.wrap IntKind.i64 (x2+1)))) none) none) (K1 x0 x1)
def spec_TupleLess_L0 (D:DX)(n:Nat) (K0:tVals→tVals→Bool→Option ((Bool×Unit)×Unit)) (K1:tVals→tVals→Option ((Bool×Unit)×Unit)):Nat→(tVals)→(tVals)→(Int)→Option ((Bool×Unit)×Unit) | 0=>(fun x0 x1 x2=>none) | m+1=>(fun x0 x1 x2=>spec_TupleLess_b0 D n (spec_TupleLess_L0 D n K0 K1 m) K0 K1 x0 x1 x2)
def spec_TupleLess_x0_0 (D:DX)(n:Nat) (v0_0:tVals) (v0_1:tVals) (v0_2:Bool):Option ((Bool×Unit)×Unit):=some ((v0_2,()),())
def spec_TupleLess_x0_1 (D:DX)(n:Nat) (v1_0:tVals) (v1_1:tVals):Option ((Bool×Unit)×Unit):=some ((decide ((↑(List.length v1_0):Int)<(↑(List.length v1_1):Int)),()),())
def spec_TupleLess_LP0 (D:DX)(n:Nat):(tVals)→(tVals)→(Int)→Option ((Bool×Unit)×Unit):=(fun x0 x1 x2=>spec_TupleLess_L0 D n (fun v0_0 v0_1 v0_2=>spec_TupleLess_x0_0 D n v0_0 v0_1 v0_2) (fun v1_0 v1_1=>spec_TupleLess_x0_1 D n v1_0 v1_1) n x0 x1 x2)
def spec_TupleLess_e (D:DX)(n:Nat) (lp0:tVals→tVals→Int→Option ((Bool×Unit)×Unit)) (a0:tVals) (a1:tVals):Option ((Bool×Unit)×Unit):=lp0 a0 a1 0
def F_spec_TupleLess (D:DX)(n:Nat) (a0:tVals) (a1:tVals):Option ((Bool×Unit)×Unit):=spec_TupleLess_e D n (spec_TupleLess_LP0 D n) a0 a1
def spec_TupleLess_Q0 (x0:tVals) (x1:tVals) (x2:Int):St:=stq 42 [(0,AV.val (Ty.sl yV) x0),(1,AV.val (Ty.sl yV) x1),(5,avI x2)] [] 
def spec_TupleLess_Q0_0 (v0_0:tVals) (v0_1:tVals) (v0_2:Bool):St:=stq 42 [(0,AV.val (Ty.sl yV) v0_0),(1,AV.val (Ty.sl yV) v0_1),(4,AV.val Ty.bool v0_2)] [] 
def spec_TupleLess_Q0_1 (v1_0:tVals) (v1_1:tVals):St:=stq 42 [(0,AV.val (Ty.sl yV) v1_0),(1,AV.val (Ty.sl yV) v1_1)] [] 
theorem spec_TupleLess_SB0 (D:DX)(n:Nat) (m:Nat) (K:Ex→St→Option (Out ctx 104)) (x0:tVals) (x1:tVals) (x2:Int) :
  LQ funcTab D n 104 [.r,.l,.r,.l] (m+1) (spec_TupleLess_Q0 x0 x1 x2) K=spec_TupleLess_b0 D n (fun x0 x1 x2=>LQ funcTab D n 104 [.r,.l,.r,.l] m (spec_TupleLess_Q0 x0 x1 x2) K) (fun v0_0 v0_1 v0_2=>K (Ex.ret) (spec_TupleLess_Q0_0 v0_0 v0_1 v0_2)) (fun v1_0 v1_1=>K (Ex.exit 0) (spec_TupleLess_Q0_1 v1_0 v1_1)) x0 x1 x2:=by kernel_rfl
theorem spec_TupleLess_EL0 (D:DX)(n:Nat) (K:Ex→St→Option (Out ctx 104)):∀ (m:Nat) (x0:tVals) (x1:tVals) (x2:Int),LQ funcTab D n 104 [.r,.l,.r,.l] m (spec_TupleLess_Q0 x0 x1 x2) K=spec_TupleLess_L0 D n (fun v0_0 v0_1 v0_2=>K (Ex.ret) (spec_TupleLess_Q0_0 v0_0 v0_1 v0_2)) (fun v1_0 v1_1=>K (Ex.exit 0) (spec_TupleLess_Q0_1 v1_0 v1_1)) m x0 x1 x2
  | 0,x0,x1,x2=>LQ_zero ..
  | m+1,x0,x1,x2=>by
    have ih:(fun x0 x1 x2=>LQ funcTab D n 104 [.r,.l,.r,.l] m (spec_TupleLess_Q0 x0 x1 x2) K)=spec_TupleLess_L0 D n (fun v0_0 v0_1 v0_2=>K (Ex.ret) (spec_TupleLess_Q0_0 v0_0 v0_1 v0_2)) (fun v1_0 v1_1=>K (Ex.exit 0) (spec_TupleLess_Q0_1 v1_0 v1_1)) m:=by funext x0 x1 x2;exact spec_TupleLess_EL0 D n K m x0 x1 x2
    rw[spec_TupleLess_SB0]
    rw[ih];rfl
theorem spec_TupleLess_X0_0 (D:DX)(n:Nat) (v0_0:tVals) (v0_1:tVals) (v0_2:Bool) :
  (CQ funcTab D n 104 [] [.r,.l,.r,.l] (lastK funcTab 104)) (Ex.ret) (spec_TupleLess_Q0_0 v0_0 v0_1 v0_2)=spec_TupleLess_x0_0 D n v0_0 v0_1 v0_2:=by kernel_rfl
theorem spec_TupleLess_X0_1 (D:DX)(n:Nat) (v1_0:tVals) (v1_1:tVals) :
  (CQ funcTab D n 104 [] [.r,.l,.r,.l] (lastK funcTab 104)) (Ex.exit 0) (spec_TupleLess_Q0_1 v1_0 v1_1)=spec_TupleLess_x0_1 D n v1_0 v1_1:=by kernel_rfl
theorem spec_TupleLess_ELP0 (D:DX)(n:Nat) (x0:tVals) (x1:tVals) (x2:Int) :
  LQ funcTab D n 104 [.r,.l,.r,.l] n (spec_TupleLess_Q0 x0 x1 x2) (CQ funcTab D n 104 [] [.r,.l,.r,.l] (lastK funcTab 104))=spec_TupleLess_LP0 D n x0 x1 x2:=by
  rw[spec_TupleLess_EL0]
  simp only[spec_TupleLess_X0_0,spec_TupleLess_X0_1]
  rfl
theorem E_spec_TupleLess (D:DX)(n:Nat) (a0:tVals) (a1:tVals):rfC funcTab D n 104 (a0,(a1,()))=F_spec_TupleLess D n a0 a1:=by
  have h:rfC funcTab D n 104 (a0,(a1,()))=spec_TupleLess_e D n (fun x0 x1 x2=>LQ funcTab D n 104 [.r,.l,.r,.l] n (spec_TupleLess_Q0 x0 x1 x2) (CQ funcTab D n 104 [] [.r,.l,.r,.l] (lastK funcTab 104))) a0 a1:=by kernel_rfl
  rw[h]
  simp only[spec_TupleLess_ELP0]
  rfl

def spec_l21Rows_b0 (D:DX)(n:Nat) (go:tRows→Int→tRows→Option ((tRows×Unit)×Unit)) (K0:tRows→Option ((tRows×Unit)×Unit)) (x0:tRows) (x1:Int) (x2:tRows):Option ((tRows×Unit)×Unit):=br (decide (x1<(↑(List.length x0):Int))) (br (decide (0≤x1)&&decide (x1<(↑(List.length x0):Int))) (br (decide (0+List.length (List.getD x0 (Int.toNat x1) [])≤bound)) (br (decide (List.length x2+1≤bound)) (go x0 (IntKind.wrap IntKind.i64 (x1+1)) (x2++[[]++List.getD x0 (Int.toNat x1) []])) none) none) none) (K0 x2)
def spec_l21Rows_L0 (D:DX)(n:Nat) (K0:tRows→Option ((tRows×Unit)×Unit)):Nat→(tRows)→(Int)→(tRows)→Option ((tRows×Unit)×Unit) | 0=>(fun x0 x1 x2=>none) | m+1=>(fun x0 x1 x2=>spec_l21Rows_b0 D n (spec_l21Rows_L0 D n K0 m) K0 x0 x1 x2)
def spec_l21Rows_x0_0 (D:DX)(n:Nat) (v0_0:tRows):Option ((tRows×Unit)×Unit):=some ((v0_0,()),())
def spec_l21Rows_LP0 (D:DX)(n:Nat):(tRows)→(Int)→(tRows)→Option ((tRows×Unit)×Unit):=(fun x0 x1 x2=>spec_l21Rows_L0 D n (fun v0_0=>spec_l21Rows_x0_0 D n v0_0) n x0 x1 x2)
def spec_l21Rows_e (D:DX)(n:Nat) (lp0:tRows→Int→tRows→Option ((tRows×Unit)×Unit)) (a0:tRows):Option ((tRows×Unit)×Unit):=lp0 a0 0 []
def F_spec_l21Rows (D:DX)(n:Nat) (a0:tRows):Option ((tRows×Unit)×Unit):=spec_l21Rows_e D n (spec_l21Rows_LP0 D n) a0
def spec_l21Rows_Q0 (x0:tRows) (x1:Int) (x2:tRows):St:=stq 22 [(0,AV.val (Ty.sl (Ty.sl yV)) x0),(3,AV.brw 3 [] 0),(4,avI x1)] [(3,Root.mk (Ty.sl (Ty.sl yV)) (Mk.own 0 (Mk.own 0 (Mk.pr Mk.no (Mk.pr Mk.no (Mk.pr Mk.no Mk.no))))) x2 false)] 
def spec_l21Rows_Q0_0 (v0_0:tRows):St:=stq 22 [(3,AV.brw 3 [] 0)] [(3,Root.mk (Ty.sl (Ty.sl yV)) (Mk.own 0 (Mk.own 0 (Mk.pr Mk.no (Mk.pr Mk.no (Mk.pr Mk.no Mk.no))))) v0_0 false)] 
theorem spec_l21Rows_SB0 (D:DX)(n:Nat) (m:Nat) (K:Ex→St→Option (Out ctx 105)) (x0:tRows) (x1:Int) (x2:tRows) :
  LQ funcTab D n 105 [.r,.r,.l,.r,.l] (m+1) (spec_l21Rows_Q0 x0 x1 x2) K=spec_l21Rows_b0 D n (fun x0 x1 x2=>LQ funcTab D n 105 [.r,.r,.l,.r,.l] m (spec_l21Rows_Q0 x0 x1 x2) K) (fun v0_0=>K (Ex.exit 0) (spec_l21Rows_Q0_0 v0_0)) x0 x1 x2:=by kernel_rfl
theorem spec_l21Rows_EL0 (D:DX)(n:Nat) (K:Ex→St→Option (Out ctx 105)):∀ (m:Nat) (x0:tRows) (x1:Int) (x2:tRows),LQ funcTab D n 105 [.r,.r,.l,.r,.l] m (spec_l21Rows_Q0 x0 x1 x2) K=spec_l21Rows_L0 D n (fun v0_0=>K (Ex.exit 0) (spec_l21Rows_Q0_0 v0_0)) m x0 x1 x2
  | 0,x0,x1,x2=>LQ_zero ..
  | m+1,x0,x1,x2=>by
    have ih:(fun x0 x1 x2=>LQ funcTab D n 105 [.r,.r,.l,.r,.l] m (spec_l21Rows_Q0 x0 x1 x2) K)=spec_l21Rows_L0 D n (fun v0_0=>K (Ex.exit 0) (spec_l21Rows_Q0_0 v0_0)) m:=by funext x0 x1 x2;exact spec_l21Rows_EL0 D n K m x0 x1 x2
    rw[spec_l21Rows_SB0]
    rw[ih];rfl
theorem spec_l21Rows_X0_0 (D:DX)(n:Nat) (v0_0:tRows) :
  (CQ funcTab D n 105 [] [.r,.r,.l,.r,.l] (lastK funcTab 105)) (Ex.exit 0) (spec_l21Rows_Q0_0 v0_0)=spec_l21Rows_x0_0 D n v0_0:=by kernel_rfl
theorem spec_l21Rows_ELP0 (D:DX)(n:Nat) (x0:tRows) (x1:Int) (x2:tRows) :
  LQ funcTab D n 105 [.r,.r,.l,.r,.l] n (spec_l21Rows_Q0 x0 x1 x2) (CQ funcTab D n 105 [] [.r,.r,.l,.r,.l] (lastK funcTab 105))=spec_l21Rows_LP0 D n x0 x1 x2:=by
  rw[spec_l21Rows_EL0]
  simp only[spec_l21Rows_X0_0]
  rfl
theorem E_spec_l21Rows (D:DX)(n:Nat) (a0:tRows):rfC funcTab D n 105 (a0,())=F_spec_l21Rows D n a0:=by
  have h:rfC funcTab D n 105 (a0,())=spec_l21Rows_e D n (fun x0 x1 x2=>LQ funcTab D n 105 [.r,.r,.l,.r,.l] n (spec_l21Rows_Q0 x0 x1 x2) (CQ funcTab D n 105 [] [.r,.r,.l,.r,.l] (lastK funcTab 105))) a0:=by kernel_rfl
  rw[h]
  simp only[spec_l21Rows_ELP0]
  rfl

def impl_copySchema_b0 (D:DX)(n:Nat) (go:tIxs→Int→Int→tSch→tSch→Option (((tSch)×Unit)×Unit)) (K0:tSch→tSch→Option (((tSch)×Unit)×Unit)) (x0:tIxs) (x1:Int) (x2:Int) (x3:tSch) (x4:tSch):Option (((tSch)×Unit)×Unit):=br (decide (x2<x1)) (br (decide (0≤x2)&&decide (x2<(↑(List.length x0):Int))) (bindD (C_slices_Clone_int_int D (Prod.fst (Prod.snd (List.getD x0 (Int.toNat x2) (ByteArray.empty,[],false,()))))) fun b↦br (decide (List.length (Prod.fst (Prod.snd (Prod.snd x4)))+1≤bound)) (go x0 x1 (IntKind.wrap IntKind.i64 (x2+1)) x3 (Prod.fst x4,Prod.fst (Prod.snd x4),Prod.fst (Prod.snd (Prod.snd x4))++[(Prod.fst (List.getD x0 (Int.toNat x2) (ByteArray.empty,[],false,())),Prod.fst (Prod.fst b),Prod.snd (Prod.snd (List.getD x0 (Int.toNat x2) (ByteArray.empty,[],false,()))))],Prod.snd (Prod.snd (Prod.snd x4)))) none) none) (K0 x3 x4)
def impl_copySchema_L0 (D:DX)(n:Nat) (K0:tSch→tSch→Option (((tSch)×Unit)×Unit)):Nat→(tIxs)→(Int)→(Int)→(tSch)→(tSch)→Option (((tSch)×Unit)×Unit) | 0=>(fun x0 x1 x2 x3 x4=>none) | m+1=>(fun x0 x1 x2 x3 x4=>impl_copySchema_b0 D n (impl_copySchema_L0 D n K0 m) K0 x0 x1 x2 x3 x4)
def impl_copySchema_x0_0 (D:DX)(n:Nat) (v0_0:tSch) (v0_1:tSch):Option (((tSch)×Unit)×Unit):=some (((Prod.fst v0_1,Prod.fst (Prod.snd v0_1),Prod.fst (Prod.snd (Prod.snd v0_1)),()),()),())
def impl_copySchema_LP0 (D:DX)(n:Nat):(tIxs)→(Int)→(Int)→(tSch)→(tSch)→Option (((tSch)×Unit)×Unit):=(fun x0 x1 x2 x3 x4=>impl_copySchema_L0 D n (fun v0_0 v0_1=>impl_copySchema_x0_0 D n v0_0 v0_1) n x0 x1 x2 x3 x4)
def impl_copySchema_e (D:DX)(n:Nat) (lp0:tIxs→Int→Int→tSch→tSch→Option (((tSch)×Unit)×Unit)) (a0:tSch):Option (((tSch)×Unit)×Unit):=bindD (C_slices_Clone_impl_Col_impl_Col D (Prod.fst a0)) fun b↦bindD (C_slices_Clone_int_int D (Prod.fst (Prod.snd a0))) fun b_1↦lp0 (Prod.fst (Prod.snd (Prod.snd a0))) (↑(List.length (Prod.fst (Prod.snd (Prod.snd a0)))):Int) 0 ([],[],[],()) (Prod.fst (Prod.fst b),Prod.fst (Prod.fst b_1),[],())
def F_impl_copySchema (D:DX)(n:Nat) (a0:tSch):Option (((tSch)×Unit)×Unit):=impl_copySchema_e D n (impl_copySchema_LP0 D n) a0
def impl_copySchema_Q0 (x0:tIxs) (x1:Int) (x2:Int) (x3:tSch) (x4:tSch):St:=stq 32 [(2,AV.addr 2 []),(3,AV.addr 3 []),(14,AV.val (Ty.sl yX) x0),(15,avI x1),(16,avI x2)] [(2,Root.mk yS (Mk.pr (Mk.own 0 (Mk.pr Mk.no (Mk.pr Mk.no (Mk.pr Mk.no Mk.no)))) (Mk.pr (Mk.own 0 Mk.no) (Mk.pr (Mk.own 0 (Mk.pr Mk.no (Mk.pr (Mk.own 0 Mk.no) (Mk.pr Mk.no Mk.no)))) Mk.no))) x3 true),(3,Root.mk yS (Mk.pr (Mk.own 0 (Mk.pr Mk.no (Mk.pr Mk.no (Mk.pr Mk.no Mk.no)))) (Mk.pr (Mk.own 0 Mk.no) (Mk.pr (Mk.own 0 (Mk.pr Mk.no (Mk.pr (Mk.own 0 Mk.no) (Mk.pr Mk.no Mk.no)))) Mk.no))) x4 true)] 
def impl_copySchema_Q0_0 (v0_0:tSch) (v0_1:tSch):St:=stq 32 [(2,AV.addr 2 []),(3,AV.addr 3 [])] [(2,Root.mk yS (Mk.pr (Mk.own 0 (Mk.pr Mk.no (Mk.pr Mk.no (Mk.pr Mk.no Mk.no)))) (Mk.pr (Mk.own 0 Mk.no) (Mk.pr (Mk.own 0 (Mk.pr Mk.no (Mk.pr (Mk.own 0 Mk.no) (Mk.pr Mk.no Mk.no)))) Mk.no))) v0_0 true),(3,Root.mk yS (Mk.pr (Mk.own 0 (Mk.pr Mk.no (Mk.pr Mk.no (Mk.pr Mk.no Mk.no)))) (Mk.pr (Mk.own 0 Mk.no) (Mk.pr (Mk.own 0 (Mk.pr Mk.no (Mk.pr (Mk.own 0 Mk.no) (Mk.pr Mk.no Mk.no)))) Mk.no))) v0_1 true)] 
theorem impl_copySchema_SB0 (D:DX)(n:Nat) (m:Nat) (K:Ex→St→Option (Out ctx 107)) (x0:tIxs) (x1:Int) (x2:Int) (x3:tSch) (x4:tSch) :
  LQ funcTab D n 107 [.r,.r,.l,.r,.l] (m+1) (impl_copySchema_Q0 x0 x1 x2 x3 x4) K=impl_copySchema_b0 D n (fun x0 x1 x2 x3 x4=>LQ funcTab D n 107 [.r,.r,.l,.r,.l] m (impl_copySchema_Q0 x0 x1 x2 x3 x4) K) (fun v0_0 v0_1=>K (Ex.exit 0) (impl_copySchema_Q0_0 v0_0 v0_1)) x0 x1 x2 x3 x4:=by kernel_rfl
theorem impl_copySchema_EL0 (D:DX)(n:Nat) (K:Ex→St→Option (Out ctx 107)):∀ (m:Nat) (x0:tIxs) (x1:Int) (x2:Int) (x3:tSch) (x4:tSch),LQ funcTab D n 107 [.r,.r,.l,.r,.l] m (impl_copySchema_Q0 x0 x1 x2 x3 x4) K=impl_copySchema_L0 D n (fun v0_0 v0_1=>K (Ex.exit 0) (impl_copySchema_Q0_0 v0_0 v0_1)) m x0 x1 x2 x3 x4
  | 0,x0,x1,x2,x3,x4=>LQ_zero ..
  | m+1,x0,x1,x2,x3,x4=>by
    have ih:(fun x0 x1 x2 x3 x4=>LQ funcTab D n 107 [.r,.r,.l,.r,.l] m (impl_copySchema_Q0 x0 x1 x2 x3 x4) K)=impl_copySchema_L0 D n (fun v0_0 v0_1=>K (Ex.exit 0) (impl_copySchema_Q0_0 v0_0 v0_1)) m:=by funext x0 x1 x2 x3 x4;exact impl_copySchema_EL0 D n K m x0 x1 x2 x3 x4
    rw[impl_copySchema_SB0]
    rw[ih];rfl
theorem impl_copySchema_X0_0 (D:DX)(n:Nat) (v0_0:tSch) (v0_1:tSch) :
  (CQ funcTab D n 107 [] [.r,.r,.l,.r,.l] (lastK funcTab 107)) (Ex.exit 0) (impl_copySchema_Q0_0 v0_0 v0_1)=impl_copySchema_x0_0 D n v0_0 v0_1:=by kernel_rfl
theorem impl_copySchema_ELP0 (D:DX)(n:Nat) (x0:tIxs) (x1:Int) (x2:Int) (x3:tSch) (x4:tSch) :
  LQ funcTab D n 107 [.r,.r,.l,.r,.l] n (impl_copySchema_Q0 x0 x1 x2 x3 x4) (CQ funcTab D n 107 [] [.r,.r,.l,.r,.l] (lastK funcTab 107))=impl_copySchema_LP0 D n x0 x1 x2 x3 x4:=by
  rw[impl_copySchema_EL0]
  simp only[impl_copySchema_X0_0]
  rfl
theorem E_impl_copySchema (D:DX)(n:Nat) (a0:tSch):rfC funcTab D n 107 (a0,())=F_impl_copySchema D n a0:=by
  have h:rfC funcTab D n 107 (a0,())=impl_copySchema_e D n (fun x0 x1 x2 x3 x4=>LQ funcTab D n 107 [.r,.r,.l,.r,.l] n (impl_copySchema_Q0 x0 x1 x2 x3 x4) (CQ funcTab D n 107 [] [.r,.r,.l,.r,.l] (lastK funcTab 107))) a0:=by kernel_rfl
  rw[h]
  simp only[impl_copySchema_ELP0]
  rfl

def spec_l19Copy_b0 (D:DX)(n:Nat) (go:Int→tSch→tSch→tSch→Option (((tSch)×Unit)×Unit)) (K0:tSch→tSch→Option (((tSch)×Unit)×Unit)) (x0:Int) (x1:tSch) (x2:tSch) (x3:tSch):Option (((tSch)×Unit)×Unit):=br (decide (x0<(↑(List.length (Prod.fst (Prod.snd (Prod.snd x1)))):Int))) (br (decide (0≤x0)&&decide (x0<(↑(List.length (Prod.fst (Prod.snd (Prod.snd x1)))):Int))) (br (decide (0+List.length (Prod.fst (Prod.snd (List.getD (Prod.fst (Prod.snd (Prod.snd x1))) (Int.toNat x0) (ByteArray.empty,[],false,()))))≤bound)) (br (decide (List.length (Prod.fst (Prod.snd (Prod.snd x3)))+1≤bound)) (go (IntKind.wrap IntKind.i64 (x0+1)) x1 x2 (Prod.fst x3,Prod.fst (Prod.snd x3),Prod.fst (Prod.snd (Prod.snd x3))++[(Prod.fst (List.getD (Prod.fst (Prod.snd (Prod.snd x1))) (Int.toNat x0) (ByteArray.empty,[],false,())),[]++Prod.fst (Prod.snd (List.getD (Prod.fst (Prod.snd (Prod.snd x1))) (Int.toNat x0) (ByteArray.empty,[],false,()))),Prod.fst (Prod.snd (Prod.snd (List.getD (Prod.fst (Prod.snd (Prod.snd x1))) (Int.toNat x0) (ByteArray.empty,[],false,())))),())],Prod.snd (Prod.snd (Prod.snd x3)))) none) none) none) (K0 x2 x3)
def spec_l19Copy_L0 (D:DX)(n:Nat) (K0:tSch→tSch→Option (((tSch)×Unit)×Unit)):Nat→(Int)→(tSch)→(tSch)→(tSch)→Option (((tSch)×Unit)×Unit) | 0=>(fun x0 x1 x2 x3=>none) | m+1=>(fun x0 x1 x2 x3=>spec_l19Copy_b0 D n (spec_l19Copy_L0 D n K0 m) K0 x0 x1 x2 x3)
def spec_l19Copy_x0_0 (D:DX)(n:Nat) (v0_0:tSch) (v0_1:tSch):Option (((tSch)×Unit)×Unit):=some (((Prod.fst v0_1,Prod.fst (Prod.snd v0_1),Prod.fst (Prod.snd (Prod.snd v0_1)),()),()),())
def spec_l19Copy_LP0 (D:DX)(n:Nat):(Int)→(tSch)→(tSch)→(tSch)→Option (((tSch)×Unit)×Unit):=(fun x0 x1 x2 x3=>spec_l19Copy_L0 D n (fun v0_0 v0_1=>spec_l19Copy_x0_0 D n v0_0 v0_1) n x0 x1 x2 x3)
def spec_l19Copy_e (D:DX)(n:Nat) (lp0:Int→tSch→tSch→tSch→Option (((tSch)×Unit)×Unit)) (a0:tSch):Option (((tSch)×Unit)×Unit):=br (decide (0+List.length (Prod.fst a0)≤bound)) (br (decide (0+List.length (Prod.fst (Prod.snd a0))≤bound)) (lp0 0 a0 ([],[],[],()) ([]++Prod.fst a0,[]++Prod.fst (Prod.snd a0),[],())) none) none
def F_spec_l19Copy (D:DX)(n:Nat) (a0:tSch):Option (((tSch)×Unit)×Unit):=spec_l19Copy_e D n (spec_l19Copy_LP0 D n) a0
def spec_l19Copy_Q0 (x0:Int) (x1:tSch) (x2:tSch) (x3:tSch):St:=stq 42 [(1,AV.addr 1 []),(2,AV.addr 2 []),(3,AV.addr 3 []),(4,avI x0)] [(1,Root.mk yS Mk.no x1 true),(2,Root.mk yS (Mk.pr (Mk.own 0 (Mk.pr Mk.no (Mk.pr Mk.no (Mk.pr Mk.no Mk.no)))) (Mk.pr (Mk.own 0 Mk.no) (Mk.pr (Mk.own 0 (Mk.pr Mk.no (Mk.pr (Mk.own 0 Mk.no) (Mk.pr Mk.no Mk.no)))) Mk.no))) x2 true),(3,Root.mk yS (Mk.pr (Mk.own 0 (Mk.pr Mk.no (Mk.pr Mk.no (Mk.pr Mk.no Mk.no)))) (Mk.pr (Mk.own 0 Mk.no) (Mk.pr (Mk.own 0 (Mk.pr Mk.no (Mk.pr (Mk.own 0 Mk.no) (Mk.pr Mk.no Mk.no)))) Mk.no))) x3 true)] 
def spec_l19Copy_Q0_0 (v0_0:tSch) (v0_1:tSch):St:=stq 42 [(2,AV.addr 2 []),(3,AV.addr 3 [])] [(2,Root.mk yS (Mk.pr (Mk.own 0 (Mk.pr Mk.no (Mk.pr Mk.no (Mk.pr Mk.no Mk.no)))) (Mk.pr (Mk.own 0 Mk.no) (Mk.pr (Mk.own 0 (Mk.pr Mk.no (Mk.pr (Mk.own 0 Mk.no) (Mk.pr Mk.no Mk.no)))) Mk.no))) v0_0 true),(3,Root.mk yS (Mk.pr (Mk.own 0 (Mk.pr Mk.no (Mk.pr Mk.no (Mk.pr Mk.no Mk.no)))) (Mk.pr (Mk.own 0 Mk.no) (Mk.pr (Mk.own 0 (Mk.pr Mk.no (Mk.pr (Mk.own 0 Mk.no) (Mk.pr Mk.no Mk.no)))) Mk.no))) v0_1 true)] 
theorem spec_l19Copy_SB0 (D:DX)(n:Nat) (m:Nat) (K:Ex→St→Option (Out ctx 108)) (x0:Int) (x1:tSch) (x2:tSch) (x3:tSch) :
  LQ funcTab D n 108 [.r,.r,.l,.r,.l] (m+1) (spec_l19Copy_Q0 x0 x1 x2 x3) K=spec_l19Copy_b0 D n (fun x0 x1 x2 x3=>LQ funcTab D n 108 [.r,.r,.l,.r,.l] m (spec_l19Copy_Q0 x0 x1 x2 x3) K) (fun v0_0 v0_1=>K (Ex.exit 0) (spec_l19Copy_Q0_0 v0_0 v0_1)) x0 x1 x2 x3:=by kernel_rfl
theorem spec_l19Copy_EL0 (D:DX)(n:Nat) (K:Ex→St→Option (Out ctx 108)):∀ (m:Nat) (x0:Int) (x1:tSch) (x2:tSch) (x3:tSch),LQ funcTab D n 108 [.r,.r,.l,.r,.l] m (spec_l19Copy_Q0 x0 x1 x2 x3) K=spec_l19Copy_L0 D n (fun v0_0 v0_1=>K (Ex.exit 0) (spec_l19Copy_Q0_0 v0_0 v0_1)) m x0 x1 x2 x3
  | 0,x0,x1,x2,x3=>LQ_zero ..
  | m+1,x0,x1,x2,x3=>by
    have ih:(fun x0 x1 x2 x3=>LQ funcTab D n 108 [.r,.r,.l,.r,.l] m (spec_l19Copy_Q0 x0 x1 x2 x3) K)=spec_l19Copy_L0 D n (fun v0_0 v0_1=>K (Ex.exit 0) (spec_l19Copy_Q0_0 v0_0 v0_1)) m:=by funext x0 x1 x2 x3;exact spec_l19Copy_EL0 D n K m x0 x1 x2 x3
    rw[spec_l19Copy_SB0]
    rw[ih];rfl
theorem spec_l19Copy_X0_0 (D:DX)(n:Nat) (v0_0:tSch) (v0_1:tSch) :
  (CQ funcTab D n 108 [] [.r,.r,.l,.r,.l] (lastK funcTab 108)) (Ex.exit 0) (spec_l19Copy_Q0_0 v0_0 v0_1)=spec_l19Copy_x0_0 D n v0_0 v0_1:=by kernel_rfl
theorem spec_l19Copy_ELP0 (D:DX)(n:Nat) (x0:Int) (x1:tSch) (x2:tSch) (x3:tSch) :
  LQ funcTab D n 108 [.r,.r,.l,.r,.l] n (spec_l19Copy_Q0 x0 x1 x2 x3) (CQ funcTab D n 108 [] [.r,.r,.l,.r,.l] (lastK funcTab 108))=spec_l19Copy_LP0 D n x0 x1 x2 x3:=by
  rw[spec_l19Copy_EL0]
  simp only[spec_l19Copy_X0_0]
  rfl
theorem E_spec_l19Copy (D:DX)(n:Nat) (a0:tSch):rfC funcTab D n 108 (a0,())=F_spec_l19Copy D n a0:=by
  have h:rfC funcTab D n 108 (a0,())=spec_l19Copy_e D n (fun x0 x1 x2 x3=>LQ funcTab D n 108 [.r,.r,.l,.r,.l] n (spec_l19Copy_Q0 x0 x1 x2 x3) (CQ funcTab D n 108 [] [.r,.r,.l,.r,.l] (lastK funcTab 108))) a0:=by kernel_rfl
  rw[h]
  simp only[spec_l19Copy_ELP0]
  rfl

def spec_l21Clash_b0 (D:DX)(n:Nat) (go:tVals→tVals→Int→tSch→Option ((Bool×Unit)×Unit)) (K0:Bool→Option ((Bool×Unit)×Unit)) (K1:Option ((Bool×Unit)×Unit)) (x0:tVals) (x1:tVals) (x2:Int) (x3:tSch):Option ((Bool×Unit)×Unit):=br (decide (x2<(↑(List.length (Prod.fst (Prod.snd (Prod.snd x3)))):Int))) (br (decide (0≤x2)&&decide (x2<(↑(List.length (Prod.fst (Prod.snd (Prod.snd x3)))):Int))) (bindD (C_spec_Project D x0 (Prod.fst (Prod.snd (List.getD (Prod.fst (Prod.snd (Prod.snd x3))) (Int.toNat x2) (ByteArray.empty,[],false,()))))) fun b↦bindD (C_spec_Project D x1 (Prod.fst (Prod.snd (List.getD (Prod.fst (Prod.snd (Prod.snd x3))) (Int.toNat x2) (ByteArray.empty,[],false,()))))) fun b_1↦br (Prod.fst (Prod.snd (Prod.snd (List.getD (Prod.fst (Prod.snd (Prod.snd x3))) (Int.toNat x2) (ByteArray.empty,[],false,()))))) (bindD (C_spec_l18Same D (Prod.fst (Prod.fst b)) (Prod.fst (Prod.fst b_1))) fun b_2↦br (Prod.fst (Prod.fst b_2)) (bindD (C_spec_l21Some D (Prod.fst (Prod.fst b))) fun b↦br (!Prod.fst (Prod.fst b)) (K0 true) (go x0 x1 (IntKind.wrap IntKind.i64 (x2+1)) x3)) (go x0 x1 (IntKind.wrap IntKind.i64 (x2+1)) x3)) (go x0 x1 (IntKind.wrap IntKind.i64 (x2+1)) x3)) none) K1
def spec_l21Clash_L0 (D:DX)(n:Nat) (K0:Bool→Option ((Bool×Unit)×Unit)) (K1:Option ((Bool×Unit)×Unit)):Nat→(tVals)→(tVals)→(Int)→(tSch)→Option ((Bool×Unit)×Unit) | 0=>(fun x0 x1 x2 x3=>none) | m+1=>(fun x0 x1 x2 x3=>spec_l21Clash_b0 D n (spec_l21Clash_L0 D n K0 K1 m) K0 K1 x0 x1 x2 x3)
def spec_l21Clash_x0_0 (D:DX)(n:Nat) (v0_0:Bool):Option ((Bool×Unit)×Unit):=some ((v0_0,()),())
def spec_l21Clash_x0_1 (D:DX)(n:Nat):Option ((Bool×Unit)×Unit):=some ((false,()),())
def spec_l21Clash_LP0 (D:DX)(n:Nat):(tVals)→(tVals)→(Int)→(tSch)→Option ((Bool×Unit)×Unit):=(fun x0 x1 x2 x3=>spec_l21Clash_L0 D n (fun v0_0=>spec_l21Clash_x0_0 D n v0_0) (spec_l21Clash_x0_1 D n) n x0 x1 x2 x3)
def spec_l21Clash_e (D:DX)(n:Nat) (lp0:tVals→tVals→Int→tSch→Option ((Bool×Unit)×Unit)) (a0:tSch) (a1:tVals) (a2:tVals):Option ((Bool×Unit)×Unit):=lp0 a1 a2 0 a0
def F_spec_l21Clash (D:DX)(n:Nat) (a0:tSch) (a1:tVals) (a2:tVals):Option ((Bool×Unit)×Unit):=spec_l21Clash_e D n (spec_l21Clash_LP0 D n) a0 a1 a2
def spec_l21Clash_Q0 (x0:tVals) (x1:tVals) (x2:Int) (x3:tSch):St:=stq 43 [(1,AV.val (Ty.sl yV) x0),(2,AV.val (Ty.sl yV) x1),(3,AV.addr 3 []),(7,avI x2)] [(3,Root.mk yS Mk.no x3 true)] 
def spec_l21Clash_Q0_0 (v0_0:Bool):St:=stq 43 [(6,AV.val Ty.bool v0_0)] [] 
def spec_l21Clash_Q0_1:St:=stq 43 [] [] 
theorem spec_l21Clash_SB0 (D:DX)(n:Nat) (m:Nat) (K:Ex→St→Option (Out ctx 111)) (x0:tVals) (x1:tVals) (x2:Int) (x3:tSch) :
  LQ funcTab D n 111 [.r,.l,.r,.l] (m+1) (spec_l21Clash_Q0 x0 x1 x2 x3) K=spec_l21Clash_b0 D n (fun x0 x1 x2 x3=>LQ funcTab D n 111 [.r,.l,.r,.l] m (spec_l21Clash_Q0 x0 x1 x2 x3) K) (fun v0_0=>K (Ex.ret) (spec_l21Clash_Q0_0 v0_0)) (K (Ex.exit 0) (spec_l21Clash_Q0_1)) x0 x1 x2 x3:=by kernel_rfl
theorem spec_l21Clash_EL0 (D:DX)(n:Nat) (K:Ex→St→Option (Out ctx 111)):∀ (m:Nat) (x0:tVals) (x1:tVals) (x2:Int) (x3:tSch),LQ funcTab D n 111 [.r,.l,.r,.l] m (spec_l21Clash_Q0 x0 x1 x2 x3) K=spec_l21Clash_L0 D n (fun v0_0=>K (Ex.ret) (spec_l21Clash_Q0_0 v0_0)) (K (Ex.exit 0) (spec_l21Clash_Q0_1)) m x0 x1 x2 x3
  | 0,x0,x1,x2,x3=>LQ_zero ..
  | m+1,x0,x1,x2,x3=>by
    have ih:(fun x0 x1 x2 x3=>LQ funcTab D n 111 [.r,.l,.r,.l] m (spec_l21Clash_Q0 x0 x1 x2 x3) K)=spec_l21Clash_L0 D n (fun v0_0=>K (Ex.ret) (spec_l21Clash_Q0_0 v0_0)) (K (Ex.exit 0) (spec_l21Clash_Q0_1)) m:=by funext x0 x1 x2 x3;exact spec_l21Clash_EL0 D n K m x0 x1 x2 x3
    rw[spec_l21Clash_SB0]
    rw[ih];rfl
theorem spec_l21Clash_X0_0 (D:DX)(n:Nat) (v0_0:Bool) :
  (CQ funcTab D n 111 [] [.r,.l,.r,.l] (lastK funcTab 111)) (Ex.ret) (spec_l21Clash_Q0_0 v0_0)=spec_l21Clash_x0_0 D n v0_0:=by kernel_rfl
theorem spec_l21Clash_X0_1 (D:DX)(n:Nat) :
  (CQ funcTab D n 111 [] [.r,.l,.r,.l] (lastK funcTab 111)) (Ex.exit 0) (spec_l21Clash_Q0_1)=spec_l21Clash_x0_1 D n:=by kernel_rfl
theorem spec_l21Clash_ELP0 (D:DX)(n:Nat) (x0:tVals) (x1:tVals) (x2:Int) (x3:tSch) :
  LQ funcTab D n 111 [.r,.l,.r,.l] n (spec_l21Clash_Q0 x0 x1 x2 x3) (CQ funcTab D n 111 [] [.r,.l,.r,.l] (lastK funcTab 111))=spec_l21Clash_LP0 D n x0 x1 x2 x3:=by
  rw[spec_l21Clash_EL0]
  simp only[spec_l21Clash_X0_0,spec_l21Clash_X0_1]
  rfl
theorem E_spec_l21Clash (D:DX)(n:Nat) (a0:tSch) (a1:tVals) (a2:tVals):rfC funcTab D n 111 (a0,(a1,(a2,())))=F_spec_l21Clash D n a0 a1 a2:=by
  have h:rfC funcTab D n 111 (a0,(a1,(a2,())))=spec_l21Clash_e D n (fun x0 x1 x2 x3=>LQ funcTab D n 111 [.r,.l,.r,.l] n (spec_l21Clash_Q0 x0 x1 x2 x3) (CQ funcTab D n 111 [] [.r,.l,.r,.l] (lastK funcTab 111))) a0 a1 a2:=by kernel_rfl
  rw[h]
  simp only[spec_l21Clash_ELP0]
  rfl

def spec_SchemaOk_b0 (D:DX)(n:Nat) (go:Int→tSch→Option ((Bool×Unit)×Unit)) (K0:Bool→tSch→Option ((Bool×Unit)×Unit)) (K1:tSch→Option ((Bool×Unit)×Unit)) (x0:Int) (x1:tSch):Option ((Bool×Unit)×Unit):=br (decide (x0<(↑(List.length (Prod.fst x1)):Int))) (br (decide (0≤x0)&&decide (x0<(↑(List.length (Prod.fst x1)):Int))) (bindD (C_spec_ColNameOk D (Prod.fst (List.getD (Prod.fst x1) (Int.toNat x0) (ByteArray.empty,0,false,())))) fun b↦br (!Prod.fst (Prod.fst b)) (K0 false x1) (br (decide (0≤x0)&&decide (x0<(↑(List.length (Prod.fst x1)):Int))) (bindD (C_spec_l1In D (Prod.fst (Prod.snd (List.getD (Prod.fst x1) (Int.toNat x0) (ByteArray.empty,0,false,())))) 1 3) fun b↦br (!Prod.fst (Prod.fst b)) (K0 false x1) (br (decide (0≤x0)&&decide (x0<(↑(List.length (Prod.fst x1)):Int))) (bindD (C_spec_ColAt D x1 (Prod.fst (List.getD (Prod.fst x1) (Int.toNat x0) (ByteArray.empty,0,false,())))) fun b↦br (Prod.fst (Prod.fst b) != x0) (K0 false x1) (go (IntKind.wrap IntKind.i64 (x0+1)) x1)) none)) none)) none) (K1 x1)
def spec_SchemaOk_L0 (D:DX)(n:Nat) (K0:Bool→tSch→Option ((Bool×Unit)×Unit)) (K1:tSch→Option ((Bool×Unit)×Unit)):Nat→(Int)→(tSch)→Option ((Bool×Unit)×Unit) | 0=>(fun x0 x1=>none) | m+1=>(fun x0 x1=>spec_SchemaOk_b0 D n (spec_SchemaOk_L0 D n K0 K1 m) K0 K1 x0 x1)
def spec_SchemaOk_x0_0 (D:DX)(n:Nat) (v0_0:Bool) (v0_1:tSch):Option ((Bool×Unit)×Unit):=some ((v0_0,()),())
def spec_SchemaOk_b1 (D:DX)(n:Nat) (go:Int→tSch→Option ((Bool×Unit)×Unit)) (K0:Bool→Option ((Bool×Unit)×Unit)) (K1:Option ((Bool×Unit)×Unit)) (x1_0:Int) (x1_1:tSch):Option ((Bool×Unit)×Unit):=br (decide (x1_0<(↑(List.length (Prod.fst (Prod.snd x1_1))):Int))) (br (decide (0≤x1_0)&&decide (x1_0<(↑(List.length (Prod.fst (Prod.snd x1_1))):Int))) (br (decide (0≤List.getD (Prod.fst (Prod.snd x1_1)) (Int.toNat x1_0) 0)&&decide (List.getD (Prod.fst (Prod.snd x1_1)) (Int.toNat x1_0) 0<(↑(List.length (Prod.fst x1_1)):Int))) (br (Prod.fst (Prod.snd (Prod.snd (List.getD (Prod.fst x1_1) (Int.toNat (List.getD (Prod.fst (Prod.snd x1_1)) (Int.toNat x1_0) 0)) (ByteArray.empty,0,false,()))))) (K0 false) (go (IntKind.wrap IntKind.i64 (x1_0+1)) x1_1)) none) none) K1
def spec_SchemaOk_L1 (D:DX)(n:Nat) (K0:Bool→Option ((Bool×Unit)×Unit)) (K1:Option ((Bool×Unit)×Unit)):Nat→(Int)→(tSch)→Option ((Bool×Unit)×Unit) | 0=>(fun x1_0 x1_1=>none) | m+1=>(fun x1_0 x1_1=>spec_SchemaOk_b1 D n (spec_SchemaOk_L1 D n K0 K1 m) K0 K1 x1_0 x1_1)
def spec_SchemaOk_x1_0 (D:DX)(n:Nat) (v0_0:Bool):Option ((Bool×Unit)×Unit):=some ((v0_0,()),())
def spec_SchemaOk_x1_1 (D:DX)(n:Nat):Option ((Bool×Unit)×Unit):=some ((true,()),())
def spec_SchemaOk_LP1 (D:DX)(n:Nat):(Int)→(tSch)→Option ((Bool×Unit)×Unit):=(fun x1_0 x1_1=>spec_SchemaOk_L1 D n (fun v0_0=>spec_SchemaOk_x1_0 D n v0_0) (spec_SchemaOk_x1_1 D n) n x1_0 x1_1)
def spec_SchemaOk_x0_1 (D:DX)(n:Nat) (lp1:Int→tSch→Option ((Bool×Unit)×Unit)) (v1_0:tSch):Option ((Bool×Unit)×Unit):=bindD (C_spec_l1In D (↑(List.length (Prod.fst v1_0)):Int) 1 5) fun b↦br (!Prod.fst (Prod.fst b)) (some ((false,()),())) (bindD (C_spec_l19Places D v1_0 (Prod.fst (Prod.snd v1_0)) 4) fun b↦br (!Prod.fst (Prod.fst b)) (some ((false,()),())) (bindD (C_spec_l19Indexes D v1_0) fun b↦br (!Prod.fst (Prod.fst b)) (some ((false,()),())) (lp1 0 v1_0)))
def spec_SchemaOk_LP0 (D:DX)(n:Nat):(Int)→(tSch)→Option ((Bool×Unit)×Unit):=(fun x0 x1=>spec_SchemaOk_L0 D n (fun v0_0 v0_1=>spec_SchemaOk_x0_0 D n v0_0 v0_1) (fun v1_0=>spec_SchemaOk_x0_1 D n (spec_SchemaOk_LP1 D n) v1_0) n x0 x1)
def spec_SchemaOk_e (D:DX)(n:Nat) (lp0:Int→tSch→Option ((Bool×Unit)×Unit)) (a0:tSch):Option ((Bool×Unit)×Unit):=lp0 0 a0
def F_spec_SchemaOk (D:DX)(n:Nat) (a0:tSch):Option ((Bool×Unit)×Unit):=spec_SchemaOk_e D n (spec_SchemaOk_LP0 D n) a0
def spec_SchemaOk_Q0 (x0:Int) (x1:tSch):St:=stq 76 [(1,AV.addr 1 []),(3,avI x0)] [(1,Root.mk yS Mk.no x1 true)] 
def spec_SchemaOk_Q0_0 (v0_0:Bool) (v0_1:tSch):St:=stq 76 [(1,AV.addr 1 []),(2,AV.val Ty.bool v0_0)] [(1,Root.mk yS Mk.no v0_1 true)] 
def spec_SchemaOk_Q0_1 (v1_0:tSch):St:=stq 76 [(1,AV.addr 1 [])] [(1,Root.mk yS Mk.no v1_0 true)] 
def spec_SchemaOk_Q1 (x1_0:Int) (x1_1:tSch):St:=stq 76 [(1,AV.addr 1 []),(4,avI x1_0)] [(1,Root.mk yS Mk.no x1_1 true)] 
def spec_SchemaOk_Q1_0 (v0_0:Bool):St:=stq 76 [(2,AV.val Ty.bool v0_0)] [] 
def spec_SchemaOk_Q1_1:St:=stq 76 [] [] 
theorem spec_SchemaOk_SB0 (D:DX)(n:Nat) (m:Nat) (K:Ex→St→Option (Out ctx 112)) (x0:Int) (x1:tSch) :
  LQ funcTab D n 112 [.r,.l,.r,.l] (m+1) (spec_SchemaOk_Q0 x0 x1) K=spec_SchemaOk_b0 D n (fun x0 x1=>LQ funcTab D n 112 [.r,.l,.r,.l] m (spec_SchemaOk_Q0 x0 x1) K) (fun v0_0 v0_1=>K (Ex.ret) (spec_SchemaOk_Q0_0 v0_0 v0_1)) (fun v1_0=>K (Ex.exit 0) (spec_SchemaOk_Q0_1 v1_0)) x0 x1:=by kernel_rfl
theorem spec_SchemaOk_EL0 (D:DX)(n:Nat) (K:Ex→St→Option (Out ctx 112)):∀ (m:Nat) (x0:Int) (x1:tSch),LQ funcTab D n 112 [.r,.l,.r,.l] m (spec_SchemaOk_Q0 x0 x1) K=spec_SchemaOk_L0 D n (fun v0_0 v0_1=>K (Ex.ret) (spec_SchemaOk_Q0_0 v0_0 v0_1)) (fun v1_0=>K (Ex.exit 0) (spec_SchemaOk_Q0_1 v1_0)) m x0 x1
  | 0,x0,x1=>LQ_zero ..
  | m+1,x0,x1=>by
    have ih:(fun x0 x1=>LQ funcTab D n 112 [.r,.l,.r,.l] m (spec_SchemaOk_Q0 x0 x1) K)=spec_SchemaOk_L0 D n (fun v0_0 v0_1=>K (Ex.ret) (spec_SchemaOk_Q0_0 v0_0 v0_1)) (fun v1_0=>K (Ex.exit 0) (spec_SchemaOk_Q0_1 v1_0)) m:=by funext x0 x1;exact spec_SchemaOk_EL0 D n K m x0 x1
    rw[spec_SchemaOk_SB0]
    rw[ih];rfl
theorem spec_SchemaOk_SB1 (D:DX)(n:Nat) (m:Nat) (K:Ex→St→Option (Out ctx 112)) (x1_0:Int) (x1_1:tSch) :
  LQ funcTab D n 112 [.r,.r,.r,.l,.r,.l] (m+1) (spec_SchemaOk_Q1 x1_0 x1_1) K=spec_SchemaOk_b1 D n (fun x1_0 x1_1=>LQ funcTab D n 112 [.r,.r,.r,.l,.r,.l] m (spec_SchemaOk_Q1 x1_0 x1_1) K) (fun v0_0=>K (Ex.ret) (spec_SchemaOk_Q1_0 v0_0)) (K (Ex.exit 2) (spec_SchemaOk_Q1_1)) x1_0 x1_1:=by kernel_rfl
theorem spec_SchemaOk_EL1 (D:DX)(n:Nat) (K:Ex→St→Option (Out ctx 112)):∀ (m:Nat) (x1_0:Int) (x1_1:tSch),LQ funcTab D n 112 [.r,.r,.r,.l,.r,.l] m (spec_SchemaOk_Q1 x1_0 x1_1) K=spec_SchemaOk_L1 D n (fun v0_0=>K (Ex.ret) (spec_SchemaOk_Q1_0 v0_0)) (K (Ex.exit 2) (spec_SchemaOk_Q1_1)) m x1_0 x1_1
  | 0,x1_0,x1_1=>LQ_zero ..
  | m+1,x1_0,x1_1=>by
    have ih:(fun x1_0 x1_1=>LQ funcTab D n 112 [.r,.r,.r,.l,.r,.l] m (spec_SchemaOk_Q1 x1_0 x1_1) K)=spec_SchemaOk_L1 D n (fun v0_0=>K (Ex.ret) (spec_SchemaOk_Q1_0 v0_0)) (K (Ex.exit 2) (spec_SchemaOk_Q1_1)) m:=by funext x1_0 x1_1;exact spec_SchemaOk_EL1 D n K m x1_0 x1_1
    rw[spec_SchemaOk_SB1]
    rw[ih];rfl
theorem spec_SchemaOk_X1_0 (D:DX)(n:Nat) (v0_0:Bool) :
  (CQ funcTab D n 112 [] [.r,.r,.r,.l,.r,.l] (lastK funcTab 112)) (Ex.ret) (spec_SchemaOk_Q1_0 v0_0)=spec_SchemaOk_x1_0 D n v0_0:=by kernel_rfl
theorem spec_SchemaOk_X1_1 (D:DX)(n:Nat) :
  (CQ funcTab D n 112 [] [.r,.r,.r,.l,.r,.l] (lastK funcTab 112)) (Ex.exit 2) (spec_SchemaOk_Q1_1)=spec_SchemaOk_x1_1 D n:=by kernel_rfl
theorem spec_SchemaOk_ELP1 (D:DX)(n:Nat) (x1_0:Int) (x1_1:tSch) :
  LQ funcTab D n 112 [.r,.r,.r,.l,.r,.l] n (spec_SchemaOk_Q1 x1_0 x1_1) (CQ funcTab D n 112 [] [.r,.r,.r,.l,.r,.l] (lastK funcTab 112))=spec_SchemaOk_LP1 D n x1_0 x1_1:=by
  rw[spec_SchemaOk_EL1]
  simp only[spec_SchemaOk_X1_0,spec_SchemaOk_X1_1]
  rfl
theorem spec_SchemaOk_X0_0 (D:DX)(n:Nat) (v0_0:Bool) (v0_1:tSch) :
  (CQ funcTab D n 112 [] [.r,.l,.r,.l] (lastK funcTab 112)) (Ex.ret) (spec_SchemaOk_Q0_0 v0_0 v0_1)=spec_SchemaOk_x0_0 D n v0_0 v0_1:=by kernel_rfl
theorem spec_SchemaOk_X0_1 (D:DX)(n:Nat) (v1_0:tSch) :
  (CQ funcTab D n 112 [] [.r,.l,.r,.l] (lastK funcTab 112)) (Ex.exit 0) (spec_SchemaOk_Q0_1 v1_0)=spec_SchemaOk_x0_1 D n (fun x1_0 x1_1=>LQ funcTab D n 112 [.r,.r,.r,.l,.r,.l] n (spec_SchemaOk_Q1 x1_0 x1_1) (CQ funcTab D n 112 [] [.r,.r,.r,.l,.r,.l] (lastK funcTab 112))) v1_0:=by kernel_rfl
theorem spec_SchemaOk_ELP0 (D:DX)(n:Nat) (x0:Int) (x1:tSch) :
  LQ funcTab D n 112 [.r,.l,.r,.l] n (spec_SchemaOk_Q0 x0 x1) (CQ funcTab D n 112 [] [.r,.l,.r,.l] (lastK funcTab 112))=spec_SchemaOk_LP0 D n x0 x1:=by
  rw[spec_SchemaOk_EL0]
  simp only[spec_SchemaOk_X0_0,spec_SchemaOk_X0_1,spec_SchemaOk_ELP1]
  rfl
theorem E_spec_SchemaOk (D:DX)(n:Nat) (a0:tSch):rfC funcTab D n 112 (a0,())=F_spec_SchemaOk D n a0:=by
  have h:rfC funcTab D n 112 (a0,())=spec_SchemaOk_e D n (fun x0 x1=>LQ funcTab D n 112 [.r,.l,.r,.l] n (spec_SchemaOk_Q0 x0 x1) (CQ funcTab D n 112 [] [.r,.l,.r,.l] (lastK funcTab 112))) a0:=by kernel_rfl
  rw[h]
  simp only[spec_SchemaOk_ELP0]
  rfl

def spec_l1In_e (D:DX)(n:Nat) (a0:Int) (a1:Int) (a2:Int):Option ((Bool×Unit)×Unit):=some ((bif decide (a0≥a1) then decide (a0≤a2) else false,()),())
def F_spec_l1In (D:DX)(n:Nat) (a0:Int) (a1:Int) (a2:Int):Option ((Bool×Unit)×Unit):=spec_l1In_e D n a0 a1 a2
theorem E_spec_l1In (D:DX)(n:Nat) (a0:Int) (a1:Int) (a2:Int):rfC funcTab D n 117 (a0,(a1,(a2,())))=F_spec_l1In D n a0 a1 a2:=by kernel_rfl

def spec_Project_b0 (D:DX)(n:Nat) (go:tVals→List Int→Int→tVals→Option ((tVals×Unit)×Unit)) (K0:tVals→Option ((tVals×Unit)×Unit)) (x0:tVals) (x1:List Int) (x2:Int) (x3:tVals):Option ((tVals×Unit)×Unit):=br (decide (x2<(↑(List.length x1):Int))) (br (decide (0≤x2)&&decide (x2<(↑(List.length x1):Int))) (bindD (C_spec_l1In D (List.getD x1 (Int.toNat x2) 0) 0 (IntKind.wrap IntKind.i64 ((↑(List.length x0):Int) - 1))) fun b↦br (Prod.fst (Prod.fst b)) (br (decide (0≤x2)&&decide (x2<(↑(List.length x1):Int))) (br (decide (0≤List.getD x1 (Int.toNat x2) 0)&&decide (List.getD x1 (Int.toNat x2) 0<(↑(List.length x0):Int))) (br (decide (List.length x3+1≤bound)) (go x0 x1 (IntKind.wrap IntKind.i64 (x2+1)) (x3++[List.getD x0 (Int.toNat (List.getD x1 (Int.toNat x2) 0)) (0,0,ByteArray.empty,())])) none) none) none) (go x0 x1 (IntKind.wrap IntKind.i64 (x2+1)) x3)) none) (K0 x3)
def spec_Project_L0 (D:DX)(n:Nat) (K0:tVals→Option ((tVals×Unit)×Unit)):Nat→(tVals)→(List Int)→(Int)→(tVals)→Option ((tVals×Unit)×Unit) | 0=>(fun x0 x1 x2 x3=>none) | m+1=>(fun x0 x1 x2 x3=>spec_Project_b0 D n (spec_Project_L0 D n K0 m) K0 x0 x1 x2 x3)
def spec_Project_x0_0 (D:DX)(n:Nat) (v0_0:tVals):Option ((tVals×Unit)×Unit):=some ((v0_0,()),())
def spec_Project_LP0 (D:DX)(n:Nat):(tVals)→(List Int)→(Int)→(tVals)→Option ((tVals×Unit)×Unit):=(fun x0 x1 x2 x3=>spec_Project_L0 D n (fun v0_0=>spec_Project_x0_0 D n v0_0) n x0 x1 x2 x3)
def spec_Project_e (D:DX)(n:Nat) (lp0:tVals→List Int→Int→tVals→Option ((tVals×Unit)×Unit)) (a0:tVals) (a1:List Int):Option ((tVals×Unit)×Unit):=lp0 a0 a1 0 []
def F_spec_Project (D:DX)(n:Nat) (a0:tVals) (a1:List Int):Option ((tVals×Unit)×Unit):=spec_Project_e D n (spec_Project_LP0 D n) a0 a1
def spec_Project_Q0 (x0:tVals) (x1:List Int) (x2:Int) (x3:tVals):St:=stq 33 [(0,AV.val (Ty.sl yV) x0),(1,AV.val (Ty.sl yI) x1),(5,AV.brw 5 [] 0),(6,avI x2)] [(5,Root.mk (Ty.sl yV) (Mk.own 0 (Mk.pr Mk.no (Mk.pr Mk.no (Mk.pr Mk.no Mk.no)))) x3 false)] 
def spec_Project_Q0_0 (v0_0:tVals):St:=stq 33 [(5,AV.brw 5 [] 0)] [(5,Root.mk (Ty.sl yV) (Mk.own 0 (Mk.pr Mk.no (Mk.pr Mk.no (Mk.pr Mk.no Mk.no)))) v0_0 false)] 
theorem spec_Project_SB0 (D:DX)(n:Nat) (m:Nat) (K:Ex→St→Option (Out ctx 119)) (x0:tVals) (x1:List Int) (x2:Int) (x3:tVals) :
  LQ funcTab D n 119 [.r,.r,.l,.r,.l] (m+1) (spec_Project_Q0 x0 x1 x2 x3) K=spec_Project_b0 D n (fun x0 x1 x2 x3=>LQ funcTab D n 119 [.r,.r,.l,.r,.l] m (spec_Project_Q0 x0 x1 x2 x3) K) (fun v0_0=>K (Ex.exit 0) (spec_Project_Q0_0 v0_0)) x0 x1 x2 x3:=by kernel_rfl
theorem spec_Project_EL0 (D:DX)(n:Nat) (K:Ex→St→Option (Out ctx 119)):∀ (m:Nat) (x0:tVals) (x1:List Int) (x2:Int) (x3:tVals),LQ funcTab D n 119 [.r,.r,.l,.r,.l] m (spec_Project_Q0 x0 x1 x2 x3) K=spec_Project_L0 D n (fun v0_0=>K (Ex.exit 0) (spec_Project_Q0_0 v0_0)) m x0 x1 x2 x3
  | 0,x0,x1,x2,x3=>LQ_zero ..
  | m+1,x0,x1,x2,x3=>by
    have ih:(fun x0 x1 x2 x3=>LQ funcTab D n 119 [.r,.r,.l,.r,.l] m (spec_Project_Q0 x0 x1 x2 x3) K)=spec_Project_L0 D n (fun v0_0=>K (Ex.exit 0) (spec_Project_Q0_0 v0_0)) m:=by funext x0 x1 x2 x3;exact spec_Project_EL0 D n K m x0 x1 x2 x3
    rw[spec_Project_SB0]
    rw[ih];rfl
theorem spec_Project_X0_0 (D:DX)(n:Nat) (v0_0:tVals) :
  (CQ funcTab D n 119 [] [.r,.r,.l,.r,.l] (lastK funcTab 119)) (Ex.exit 0) (spec_Project_Q0_0 v0_0)=spec_Project_x0_0 D n v0_0:=by kernel_rfl
theorem spec_Project_ELP0 (D:DX)(n:Nat) (x0:tVals) (x1:List Int) (x2:Int) (x3:tVals) :
  LQ funcTab D n 119 [.r,.r,.l,.r,.l] n (spec_Project_Q0 x0 x1 x2 x3) (CQ funcTab D n 119 [] [.r,.r,.l,.r,.l] (lastK funcTab 119))=spec_Project_LP0 D n x0 x1 x2 x3:=by
  rw[spec_Project_EL0]
  simp only[spec_Project_X0_0]
  rfl
theorem E_spec_Project (D:DX)(n:Nat) (a0:tVals) (a1:List Int):rfC funcTab D n 119 (a0,(a1,()))=F_spec_Project D n a0 a1:=by
  have h:rfC funcTab D n 119 (a0,(a1,()))=spec_Project_e D n (fun x0 x1 x2 x3=>LQ funcTab D n 119 [.r,.r,.l,.r,.l] n (spec_Project_Q0 x0 x1 x2 x3) (CQ funcTab D n 119 [] [.r,.r,.l,.r,.l] (lastK funcTab 119))) a0 a1:=by kernel_rfl
  rw[h]
  simp only[spec_Project_ELP0]
  rfl

def laws_szSchema_e (D:DX)(n:Nat) (a0:tSch) (a1:Int):Option ((Int×Unit)×Unit):=bindD (C_laws_szColS D (Prod.fst a0) a1) fun b↦br (decide (Prod.fst (Prod.fst b)<0)) (some ((-1,()),())) (bindD (C_laws_szIntS D (Prod.fst (Prod.snd a0)) (Prod.fst (Prod.fst b))) fun b↦br (decide (Prod.fst (Prod.fst b)<0)) (some ((-1,()),())) (bindD (C_laws_szIndexS D (Prod.fst (Prod.snd (Prod.snd a0))) (Prod.fst (Prod.fst b))) fun b↦br (decide (Prod.fst (Prod.fst b)<0)) (some ((-1,()),())) (some ((Prod.fst (Prod.fst b),()),()))))
def F_laws_szSchema (D:DX)(n:Nat) (a0:tSch) (a1:Int):Option ((Int×Unit)×Unit):=laws_szSchema_e D n a0 a1
theorem E_laws_szSchema (D:DX)(n:Nat) (a0:tSch) (a1:Int):rfC funcTab D n 120 (a0,(a1,()))=F_laws_szSchema D n a0 a1:=by kernel_rfl

def laws_szValueSS_b0 (D:DX)(n:Nat) (go:tRows→Int→Int→Option ((Int×Unit)×Unit)) (K0:Int→Int→Option ((Int×Unit)×Unit)) (K1:Int→Option ((Int×Unit)×Unit)) (x0:tRows) (x1:Int) (x2:Int):Option ((Int×Unit)×Unit):=br (decide (x2<(↑(List.length x0):Int))) (br (decide (0≤x2)&&decide (x2<(↑(List.length x0):Int))) (bindD (C_laws_szValueS D (List.getD x0 (Int.toNat x2) []) x1) fun b↦br (decide (Prod.fst (Prod.fst b)<0)) (K0 (Prod.fst (Prod.fst b)) (-1)) (go x0 (Prod.fst (Prod.fst b)) (IntKind.wrap IntKind.i64 (x2+1)))) none) (K1 x1)
def laws_szValueSS_L0 (D:DX)(n:Nat) (K0:Int→Int→Option ((Int×Unit)×Unit)) (K1:Int→Option ((Int×Unit)×Unit)):Nat→(tRows)→(Int)→(Int)→Option ((Int×Unit)×Unit) | 0=>(fun x0 x1 x2=>none) | m+1=>(fun x0 x1 x2=>laws_szValueSS_b0 D n (laws_szValueSS_L0 D n K0 K1 m) K0 K1 x0 x1 x2)
def laws_szValueSS_x0_0 (D:DX)(n:Nat) (v0_0:Int) (v0_1:Int):Option ((Int×Unit)×Unit):=some ((v0_1,()),())
def laws_szValueSS_x0_1 (D:DX)(n:Nat) (v1_0:Int):Option ((Int×Unit)×Unit):=some ((v1_0,()),())
def laws_szValueSS_LP0 (D:DX)(n:Nat):(tRows)→(Int)→(Int)→Option ((Int×Unit)×Unit):=(fun x0 x1 x2=>laws_szValueSS_L0 D n (fun v0_0 v0_1=>laws_szValueSS_x0_0 D n v0_0 v0_1) (fun v1_0=>laws_szValueSS_x0_1 D n v1_0) n x0 x1 x2)
def laws_szValueSS_e (D:DX)(n:Nat) (lp0:tRows→Int→Int→Option ((Int×Unit)×Unit)) (a0:tRows) (a1:Int):Option ((Int×Unit)×Unit):=br (decide (IntKind.wrap IntKind.i64 (a1 - (↑(List.length a0):Int))<0)) (some ((-1,()),())) (lp0 a0 (IntKind.wrap IntKind.i64 (a1 - (↑(List.length a0):Int))) 0)
def F_laws_szValueSS (D:DX)(n:Nat) (a0:tRows) (a1:Int):Option ((Int×Unit)×Unit):=laws_szValueSS_e D n (laws_szValueSS_LP0 D n) a0 a1
def laws_szValueSS_Q0 (x0:tRows) (x1:Int) (x2:Int):St:=stq 27 [(0,AV.val (Ty.sl (Ty.sl yV)) x0),(1,avI x1),(5,avI x2)] [] 
def laws_szValueSS_Q0_0 (v0_0:Int) (v0_1:Int):St:=stq 27 [(1,avI v0_0),(4,avI v0_1)] [] 
def laws_szValueSS_Q0_1 (v1_0:Int):St:=stq 27 [(1,avI v1_0)] [] 
theorem laws_szValueSS_SB0 (D:DX)(n:Nat) (m:Nat) (K:Ex→St→Option (Out ctx 121)) (x0:tRows) (x1:Int) (x2:Int) :
  LQ funcTab D n 121 [.r,.r,.r,.l,.r,.l] (m+1) (laws_szValueSS_Q0 x0 x1 x2) K=laws_szValueSS_b0 D n (fun x0 x1 x2=>LQ funcTab D n 121 [.r,.r,.r,.l,.r,.l] m (laws_szValueSS_Q0 x0 x1 x2) K) (fun v0_0 v0_1=>K (Ex.ret) (laws_szValueSS_Q0_0 v0_0 v0_1)) (fun v1_0=>K (Ex.exit 0) (laws_szValueSS_Q0_1 v1_0)) x0 x1 x2:=by kernel_rfl
theorem laws_szValueSS_EL0 (D:DX)(n:Nat) (K:Ex→St→Option (Out ctx 121)):∀ (m:Nat) (x0:tRows) (x1:Int) (x2:Int),LQ funcTab D n 121 [.r,.r,.r,.l,.r,.l] m (laws_szValueSS_Q0 x0 x1 x2) K=laws_szValueSS_L0 D n (fun v0_0 v0_1=>K (Ex.ret) (laws_szValueSS_Q0_0 v0_0 v0_1)) (fun v1_0=>K (Ex.exit 0) (laws_szValueSS_Q0_1 v1_0)) m x0 x1 x2
  | 0,x0,x1,x2=>LQ_zero ..
  | m+1,x0,x1,x2=>by
    have ih:(fun x0 x1 x2=>LQ funcTab D n 121 [.r,.r,.r,.l,.r,.l] m (laws_szValueSS_Q0 x0 x1 x2) K)=laws_szValueSS_L0 D n (fun v0_0 v0_1=>K (Ex.ret) (laws_szValueSS_Q0_0 v0_0 v0_1)) (fun v1_0=>K (Ex.exit 0) (laws_szValueSS_Q0_1 v1_0)) m:=by funext x0 x1 x2;exact laws_szValueSS_EL0 D n K m x0 x1 x2
    rw[laws_szValueSS_SB0]
    rw[ih];rfl
theorem laws_szValueSS_X0_0 (D:DX)(n:Nat) (v0_0:Int) (v0_1:Int) :
  (CQ funcTab D n 121 [] [.r,.r,.r,.l,.r,.l] (lastK funcTab 121)) (Ex.ret) (laws_szValueSS_Q0_0 v0_0 v0_1)=laws_szValueSS_x0_0 D n v0_0 v0_1:=by kernel_rfl
theorem laws_szValueSS_X0_1 (D:DX)(n:Nat) (v1_0:Int) :
  (CQ funcTab D n 121 [] [.r,.r,.r,.l,.r,.l] (lastK funcTab 121)) (Ex.exit 0) (laws_szValueSS_Q0_1 v1_0)=laws_szValueSS_x0_1 D n v1_0:=by kernel_rfl
theorem laws_szValueSS_ELP0 (D:DX)(n:Nat) (x0:tRows) (x1:Int) (x2:Int) :
  LQ funcTab D n 121 [.r,.r,.r,.l,.r,.l] n (laws_szValueSS_Q0 x0 x1 x2) (CQ funcTab D n 121 [] [.r,.r,.r,.l,.r,.l] (lastK funcTab 121))=laws_szValueSS_LP0 D n x0 x1 x2:=by
  rw[laws_szValueSS_EL0]
  simp only[laws_szValueSS_X0_0,laws_szValueSS_X0_1]
  rfl
theorem E_laws_szValueSS (D:DX)(n:Nat) (a0:tRows) (a1:Int):rfC funcTab D n 121 (a0,(a1,()))=F_laws_szValueSS D n a0 a1:=by
  have h:rfC funcTab D n 121 (a0,(a1,()))=laws_szValueSS_e D n (fun x0 x1 x2=>LQ funcTab D n 121 [.r,.r,.r,.l,.r,.l] n (laws_szValueSS_Q0 x0 x1 x2) (CQ funcTab D n 121 [] [.r,.r,.r,.l,.r,.l] (lastK funcTab 121))) a0 a1:=by kernel_rfl
  rw[h]
  simp only[laws_szValueSS_ELP0]
  rfl

def laws_szValue_e (D:DX)(n:Nat) (a0:Int×Int×ByteArray×Unit) (a1:Int):Option ((Int×Unit)×Unit):=br (decide (IntKind.wrap IntKind.i64 (a1 - (↑(ByteArray.size (Prod.fst (Prod.snd (Prod.snd a0)))):Int))<0)) (some ((-1,()),())) (some ((IntKind.wrap IntKind.i64 (a1 - (↑(ByteArray.size (Prod.fst (Prod.snd (Prod.snd a0)))):Int)),()),()))
def F_laws_szValue (D:DX)(n:Nat) (a0:Int×Int×ByteArray×Unit) (a1:Int):Option ((Int×Unit)×Unit):=laws_szValue_e D n a0 a1
theorem E_laws_szValue (D:DX)(n:Nat) (a0:Int×Int×ByteArray×Unit) (a1:Int):rfC funcTab D n 122 (a0,(a1,()))=F_laws_szValue D n a0 a1:=by kernel_rfl

def laws_toSchema_e (D:DX)(n:Nat) (a0:tSch):Option (((tSch)×Unit)×Unit):=bindD (C_laws_toColS D (Prod.fst a0)) fun b↦bindD (C_laws_toIntS D (Prod.fst (Prod.snd a0))) fun b_1↦bindD (C_laws_toIndexS D (Prod.fst (Prod.snd (Prod.snd a0)))) fun b_2↦some (((Prod.fst (Prod.fst b),Prod.fst (Prod.fst b_1),Prod.fst (Prod.fst b_2),()),()),())
def F_laws_toSchema (D:DX)(n:Nat) (a0:tSch):Option (((tSch)×Unit)×Unit):=laws_toSchema_e D n a0
theorem E_laws_toSchema (D:DX)(n:Nat) (a0:tSch):rfC funcTab D n 123 (a0,())=F_laws_toSchema D n a0:=by kernel_rfl

def laws_toValueSS_b0 (D:DX)(n:Nat) (go:tRows→Int→tRows→Option ((tRows×Unit)×Unit)) (K0:tRows→Option ((tRows×Unit)×Unit)) (x0:tRows) (x1:Int) (x2:tRows):Option ((tRows×Unit)×Unit):=br (decide (x1<(↑(List.length x0):Int))) (br (decide (0≤x1)&&decide (x1<(↑(List.length x0):Int))) (bindD (C_laws_toValueS D (List.getD x0 (Int.toNat x1) [])) fun b↦br (decide (0≤x1)&&decide (x1<(↑(List.length x2):Int))) (go x0 (IntKind.wrap IntKind.i64 (x1+1)) (List.set x2 (Int.toNat x1) (Prod.fst (Prod.fst b)))) none) none) (K0 x2)
def laws_toValueSS_L0 (D:DX)(n:Nat) (K0:tRows→Option ((tRows×Unit)×Unit)):Nat→(tRows)→(Int)→(tRows)→Option ((tRows×Unit)×Unit) | 0=>(fun x0 x1 x2=>none) | m+1=>(fun x0 x1 x2=>laws_toValueSS_b0 D n (laws_toValueSS_L0 D n K0 m) K0 x0 x1 x2)
def laws_toValueSS_x0_0 (D:DX)(n:Nat) (v0_0:tRows):Option ((tRows×Unit)×Unit):=some ((v0_0,()),())
def laws_toValueSS_LP0 (D:DX)(n:Nat):(tRows)→(Int)→(tRows)→Option ((tRows×Unit)×Unit):=(fun x0 x1 x2=>laws_toValueSS_L0 D n (fun v0_0=>laws_toValueSS_x0_0 D n v0_0) n x0 x1 x2)
def laws_toValueSS_e (D:DX)(n:Nat) (lp0:tRows→Int→tRows→Option ((tRows×Unit)×Unit)) (a0:tRows):Option ((tRows×Unit)×Unit):=br (decide (0≤(↑(List.length a0):Int))&&decide ((↑(List.length a0):Int)≤(↑(List.length a0):Int))&&decide ((↑(List.length a0):Int)≤(↑bound:Int))) (lp0 a0 0 (List.replicate (Int.toNat (↑(List.length a0):Int)) [])) none
def F_laws_toValueSS (D:DX)(n:Nat) (a0:tRows):Option ((tRows×Unit)×Unit):=laws_toValueSS_e D n (laws_toValueSS_LP0 D n) a0
def laws_toValueSS_Q0 (x0:tRows) (x1:Int) (x2:tRows):St:=stq 23 [(0,AV.val (Ty.sl (Ty.sl yV)) x0),(3,AV.brw 3 [] 0),(4,avI x1)] [(3,Root.mk (Ty.sl (Ty.sl yV)) (Mk.own 0 (Mk.own 0 (Mk.pr Mk.no (Mk.pr Mk.no (Mk.pr Mk.no Mk.no))))) x2 false)] 
def laws_toValueSS_Q0_0 (v0_0:tRows):St:=stq 23 [(3,AV.brw 3 [] 0)] [(3,Root.mk (Ty.sl (Ty.sl yV)) (Mk.own 0 (Mk.own 0 (Mk.pr Mk.no (Mk.pr Mk.no (Mk.pr Mk.no Mk.no))))) v0_0 false)] 
theorem laws_toValueSS_SB0 (D:DX)(n:Nat) (m:Nat) (K:Ex→St→Option (Out ctx 124)) (x0:tRows) (x1:Int) (x2:tRows) :
  LQ funcTab D n 124 [.r,.r,.l,.r,.l] (m+1) (laws_toValueSS_Q0 x0 x1 x2) K=laws_toValueSS_b0 D n (fun x0 x1 x2=>LQ funcTab D n 124 [.r,.r,.l,.r,.l] m (laws_toValueSS_Q0 x0 x1 x2) K) (fun v0_0=>K (Ex.exit 0) (laws_toValueSS_Q0_0 v0_0)) x0 x1 x2:=by kernel_rfl
theorem laws_toValueSS_EL0 (D:DX)(n:Nat) (K:Ex→St→Option (Out ctx 124)):∀ (m:Nat) (x0:tRows) (x1:Int) (x2:tRows),LQ funcTab D n 124 [.r,.r,.l,.r,.l] m (laws_toValueSS_Q0 x0 x1 x2) K=laws_toValueSS_L0 D n (fun v0_0=>K (Ex.exit 0) (laws_toValueSS_Q0_0 v0_0)) m x0 x1 x2
  | 0,x0,x1,x2=>LQ_zero ..
  | m+1,x0,x1,x2=>by
    have ih:(fun x0 x1 x2=>LQ funcTab D n 124 [.r,.r,.l,.r,.l] m (laws_toValueSS_Q0 x0 x1 x2) K)=laws_toValueSS_L0 D n (fun v0_0=>K (Ex.exit 0) (laws_toValueSS_Q0_0 v0_0)) m:=by funext x0 x1 x2;exact laws_toValueSS_EL0 D n K m x0 x1 x2
    rw[laws_toValueSS_SB0]
    rw[ih];rfl
theorem laws_toValueSS_X0_0 (D:DX)(n:Nat) (v0_0:tRows) :
  (CQ funcTab D n 124 [] [.r,.r,.l,.r,.l] (lastK funcTab 124)) (Ex.exit 0) (laws_toValueSS_Q0_0 v0_0)=laws_toValueSS_x0_0 D n v0_0:=by kernel_rfl
theorem laws_toValueSS_ELP0 (D:DX)(n:Nat) (x0:tRows) (x1:Int) (x2:tRows) :
  LQ funcTab D n 124 [.r,.r,.l,.r,.l] n (laws_toValueSS_Q0 x0 x1 x2) (CQ funcTab D n 124 [] [.r,.r,.l,.r,.l] (lastK funcTab 124))=laws_toValueSS_LP0 D n x0 x1 x2:=by
  rw[laws_toValueSS_EL0]
  simp only[laws_toValueSS_X0_0]
  rfl
theorem E_laws_toValueSS (D:DX)(n:Nat) (a0:tRows):rfC funcTab D n 124 (a0,())=F_laws_toValueSS D n a0:=by
  have h:rfC funcTab D n 124 (a0,())=laws_toValueSS_e D n (fun x0 x1 x2=>LQ funcTab D n 124 [.r,.r,.l,.r,.l] n (laws_toValueSS_Q0 x0 x1 x2) (CQ funcTab D n 124 [] [.r,.r,.l,.r,.l] (lastK funcTab 124))) a0:=by kernel_rfl
  rw[h]
  simp only[laws_toValueSS_ELP0]
  rfl

def laws_toValue_e (D:DX)(n:Nat) (a0:Int×Int×ByteArray×Unit):Option ((tVal×Unit)×Unit):=some (((Prod.fst a0,Prod.fst (Prod.snd a0),Prod.fst (Prod.snd (Prod.snd a0)),()),()),())
def F_laws_toValue (D:DX)(n:Nat) (a0:Int×Int×ByteArray×Unit):Option ((tVal×Unit)×Unit):=laws_toValue_e D n a0
theorem E_laws_toValue (D:DX)(n:Nat) (a0:Int×Int×ByteArray×Unit):rfC funcTab D n 125 (a0,())=F_laws_toValue D n a0:=by kernel_rfl

def laws_eqSchema_e (D:DX)(n:Nat) (a0:tSch) (a1:tSch):Option ((Bool×Unit)×Unit):=bindD (C_laws_eqColS D (Prod.fst a0) (Prod.fst a1)) fun b↦br (!Prod.fst (Prod.fst b)) (some ((false,()),())) (bindD (C_laws_eqIntS D (Prod.fst (Prod.snd a0)) (Prod.fst (Prod.snd a1))) fun b↦br (!Prod.fst (Prod.fst b)) (some ((false,()),())) (bindD (C_laws_eqIndexS D (Prod.fst (Prod.snd (Prod.snd a0))) (Prod.fst (Prod.snd (Prod.snd a1)))) fun b↦br (!Prod.fst (Prod.fst b)) (some ((false,()),())) (some ((true,()),()))))
def F_laws_eqSchema (D:DX)(n:Nat) (a0:tSch) (a1:tSch):Option ((Bool×Unit)×Unit):=laws_eqSchema_e D n a0 a1
theorem E_laws_eqSchema (D:DX)(n:Nat) (a0:tSch) (a1:tSch):rfC funcTab D n 126 (a0,(a1,()))=F_laws_eqSchema D n a0 a1:=by kernel_rfl

def laws_eqValueSS_b0 (D:DX)(n:Nat) (go:tRows→tRows→Int→Option ((Bool×Unit)×Unit)) (K0:Bool→Option ((Bool×Unit)×Unit)) (K1:Option ((Bool×Unit)×Unit)) (x0:tRows) (x1:tRows) (x2:Int):Option ((Bool×Unit)×Unit):=br (decide (x2<(↑(List.length x0):Int))) (br (decide (0≤x2)&&decide (x2<(↑(List.length x0):Int))) (br (decide (0≤x2)&&decide (x2<(↑(List.length x1):Int))) (bindD (C_laws_eqValueS D (List.getD x0 (Int.toNat x2) []) (List.getD x1 (Int.toNat x2) [])) fun b↦br (!Prod.fst (Prod.fst b)) (K0 false) (go x0 x1 (IntKind.wrap IntKind.i64 (x2+1)))) none) none) K1
def laws_eqValueSS_L0 (D:DX)(n:Nat) (K0:Bool→Option ((Bool×Unit)×Unit)) (K1:Option ((Bool×Unit)×Unit)):Nat→(tRows)→(tRows)→(Int)→Option ((Bool×Unit)×Unit) | 0=>(fun x0 x1 x2=>none) | m+1=>(fun x0 x1 x2=>laws_eqValueSS_b0 D n (laws_eqValueSS_L0 D n K0 K1 m) K0 K1 x0 x1 x2)
def laws_eqValueSS_x0_0 (D:DX)(n:Nat) (v0_0:Bool):Option ((Bool×Unit)×Unit):=some ((v0_0,()),())
def laws_eqValueSS_x0_1 (D:DX)(n:Nat):Option ((Bool×Unit)×Unit):=some ((true,()),())
def laws_eqValueSS_LP0 (D:DX)(n:Nat):(tRows)→(tRows)→(Int)→Option ((Bool×Unit)×Unit):=(fun x0 x1 x2=>laws_eqValueSS_L0 D n (fun v0_0=>laws_eqValueSS_x0_0 D n v0_0) (laws_eqValueSS_x0_1 D n) n x0 x1 x2)
def laws_eqValueSS_e (D:DX)(n:Nat) (lp0:tRows→tRows→Int→Option ((Bool×Unit)×Unit)) (a0:tRows) (a1:tRows):Option ((Bool×Unit)×Unit):=br ((↑(List.length a0):Int) != (↑(List.length a1):Int)) (some ((false,()),())) (lp0 a0 a1 0)
def F_laws_eqValueSS (D:DX)(n:Nat) (a0:tRows) (a1:tRows):Option ((Bool×Unit)×Unit):=laws_eqValueSS_e D n (laws_eqValueSS_LP0 D n) a0 a1
def laws_eqValueSS_Q0 (x0:tRows) (x1:tRows) (x2:Int):St:=stq 27 [(0,AV.val (Ty.sl (Ty.sl yV)) x0),(1,AV.val (Ty.sl (Ty.sl yV)) x1),(5,avI x2)] [] 
def laws_eqValueSS_Q0_0 (v0_0:Bool):St:=stq 27 [(4,AV.val Ty.bool v0_0)] [] 
def laws_eqValueSS_Q0_1:St:=stq 27 [] [] 
theorem laws_eqValueSS_SB0 (D:DX)(n:Nat) (m:Nat) (K:Ex→St→Option (Out ctx 127)) (x0:tRows) (x1:tRows) (x2:Int) :
  LQ funcTab D n 127 [.r,.r,.l,.r,.l] (m+1) (laws_eqValueSS_Q0 x0 x1 x2) K=laws_eqValueSS_b0 D n (fun x0 x1 x2=>LQ funcTab D n 127 [.r,.r,.l,.r,.l] m (laws_eqValueSS_Q0 x0 x1 x2) K) (fun v0_0=>K (Ex.ret) (laws_eqValueSS_Q0_0 v0_0)) (K (Ex.exit 0) (laws_eqValueSS_Q0_1)) x0 x1 x2:=by kernel_rfl
theorem laws_eqValueSS_EL0 (D:DX)(n:Nat) (K:Ex→St→Option (Out ctx 127)):∀ (m:Nat) (x0:tRows) (x1:tRows) (x2:Int),LQ funcTab D n 127 [.r,.r,.l,.r,.l] m (laws_eqValueSS_Q0 x0 x1 x2) K=laws_eqValueSS_L0 D n (fun v0_0=>K (Ex.ret) (laws_eqValueSS_Q0_0 v0_0)) (K (Ex.exit 0) (laws_eqValueSS_Q0_1)) m x0 x1 x2
  | 0,x0,x1,x2=>LQ_zero ..
  | m+1,x0,x1,x2=>by
    have ih:(fun x0 x1 x2=>LQ funcTab D n 127 [.r,.r,.l,.r,.l] m (laws_eqValueSS_Q0 x0 x1 x2) K)=laws_eqValueSS_L0 D n (fun v0_0=>K (Ex.ret) (laws_eqValueSS_Q0_0 v0_0)) (K (Ex.exit 0) (laws_eqValueSS_Q0_1)) m:=by funext x0 x1 x2;exact laws_eqValueSS_EL0 D n K m x0 x1 x2
    rw[laws_eqValueSS_SB0]
    rw[ih];rfl
theorem laws_eqValueSS_X0_0 (D:DX)(n:Nat) (v0_0:Bool) :
  (CQ funcTab D n 127 [] [.r,.r,.l,.r,.l] (lastK funcTab 127)) (Ex.ret) (laws_eqValueSS_Q0_0 v0_0)=laws_eqValueSS_x0_0 D n v0_0:=by kernel_rfl
theorem laws_eqValueSS_X0_1 (D:DX)(n:Nat) :
  (CQ funcTab D n 127 [] [.r,.r,.l,.r,.l] (lastK funcTab 127)) (Ex.exit 0) (laws_eqValueSS_Q0_1)=laws_eqValueSS_x0_1 D n:=by kernel_rfl
theorem laws_eqValueSS_ELP0 (D:DX)(n:Nat) (x0:tRows) (x1:tRows) (x2:Int) :
  LQ funcTab D n 127 [.r,.r,.l,.r,.l] n (laws_eqValueSS_Q0 x0 x1 x2) (CQ funcTab D n 127 [] [.r,.r,.l,.r,.l] (lastK funcTab 127))=laws_eqValueSS_LP0 D n x0 x1 x2:=by
  rw[laws_eqValueSS_EL0]
  simp only[laws_eqValueSS_X0_0,laws_eqValueSS_X0_1]
  rfl
theorem E_laws_eqValueSS (D:DX)(n:Nat) (a0:tRows) (a1:tRows):rfC funcTab D n 127 (a0,(a1,()))=F_laws_eqValueSS D n a0 a1:=by
  have h:rfC funcTab D n 127 (a0,(a1,()))=laws_eqValueSS_e D n (fun x0 x1 x2=>LQ funcTab D n 127 [.r,.r,.l,.r,.l] n (laws_eqValueSS_Q0 x0 x1 x2) (CQ funcTab D n 127 [] [.r,.r,.l,.r,.l] (lastK funcTab 127))) a0 a1:=by kernel_rfl
  rw[h]
  simp only[laws_eqValueSS_ELP0]
  rfl

def laws_eqValue_e (D:DX)(n:Nat) (a0:Int×Int×ByteArray×Unit) (a1:Int×Int×ByteArray×Unit):Option ((Bool×Unit)×Unit):=br (Prod.fst a0 != Prod.fst a1) (some ((false,()),())) (br (Prod.fst (Prod.snd a0) != Prod.fst (Prod.snd a1)) (some ((false,()),())) (br (!List.beq (ByteArray.toList (Prod.fst (Prod.snd (Prod.snd a0)))) (ByteArray.toList (Prod.fst (Prod.snd (Prod.snd a1))))) (some ((false,()),())) (some ((true,()),()))))
def F_laws_eqValue (D:DX)(n:Nat) (a0:Int×Int×ByteArray×Unit) (a1:Int×Int×ByteArray×Unit):Option ((Bool×Unit)×Unit):=laws_eqValue_e D n a0 a1
theorem E_laws_eqValue (D:DX)(n:Nat) (a0:Int×Int×ByteArray×Unit) (a1:Int×Int×ByteArray×Unit):rfC funcTab D n 128 (a0,(a1,()))=F_laws_eqValue D n a0 a1:=by kernel_rfl

def laws_markSchema_e (D:DX)(n:Nat) (a0:tSch) (a1:Int):Option ((Int×Unit)×(tSch)×Unit):=bindD (C_laws_markColS D (Prod.fst a0) a1) fun b↦bindD (C_laws_markIntS D (Prod.fst (Prod.snd a0)) (Prod.fst (Prod.fst b))) fun b_1↦bindD (C_laws_markIndexS D (Prod.fst (Prod.snd (Prod.snd a0))) (Prod.fst (Prod.fst b_1))) fun b_2↦some ((Prod.fst (Prod.fst b_2),()),(Prod.fst (Prod.snd b),Prod.fst (Prod.snd b_1),Prod.fst (Prod.snd b_2),()),())
def F_laws_markSchema (D:DX)(n:Nat) (a0:tSch) (a1:Int):Option ((Int×Unit)×(tSch)×Unit):=laws_markSchema_e D n a0 a1
theorem E_laws_markSchema (D:DX)(n:Nat) (a0:tSch) (a1:Int):rfC funcTab D n 129 (a0,(a1,()))=F_laws_markSchema D n a0 a1:=by kernel_rfl

def laws_markValueSS_b0 (D:DX)(n:Nat) (go:Int→Int→tRows→Option ((Int×Unit)×tRows×Unit)) (K0:Int→tRows→Option ((Int×Unit)×tRows×Unit)) (x0:Int) (x1:Int) (x2:tRows):Option ((Int×Unit)×tRows×Unit):=br (decide (x1<(↑(List.length x2):Int))) (br (decide (0≤x1)&&decide (x1<(↑(List.length x2):Int))) (bindD (C_laws_markValueS D (List.getD x2 (Int.toNat x1) []) x0) fun b↦br (lendsOk [PK.mutv (Ty.sl (Ty.pair (Ty.int IntKind.i64) (Ty.pair (Ty.int IntKind.i64) (Ty.pair Ty.str Ty.unit)))) (Mk.top (Ty.sl (Ty.pair (Ty.int IntKind.i64) (Ty.pair (Ty.int IntKind.i64) (Ty.pair Ty.str Ty.unit))))) (Mk.top (Ty.sl (Ty.pair (Ty.int IntKind.i64) (Ty.pair (Ty.int IntKind.i64) (Ty.pair Ty.str Ty.unit))))),PK.val (Ty.int IntKind.i64)] (List.map (ev (St.mk [AV.brw 0 [] 1048576,AV.val (Ty.int IntKind.i64) x0,AV.undef,AV.undef,AV.undef,AV.val (Ty.int IntKind.i64) x1,AV.val (Ty.int IntKind.i64) x1,AV.brw 0 [] 1048576,AV.val (Ty.int IntKind.i64) (↑(List.length x2):Int),AV.val Ty.bool (decide (x1<(↑(List.length x2):Int))),AV.undef,AV.undef,AV.brw 0 [] 1048576,AV.val (Ty.int IntKind.i64) x1,AV.addr 0 [Stp.idx (Int.toNat x1) 1048576],AV.brw 0 [Stp.idx (Int.toNat x1) 1048576] 0,AV.val (Ty.int IntKind.i64) x0,AV.undef,AV.undef] [some (Root.mk (Ty.sl (Ty.sl (Ty.pair (Ty.int IntKind.i64) (Ty.pair (Ty.int IntKind.i64) (Ty.pair Ty.str Ty.unit))))) (Mk.own 1048576 (Mk.own 0 (Mk.pr Mk.no (Mk.pr Mk.no (Mk.pr Mk.no Mk.no))))) x2 false),none,none,none,none,none,none,none,none,none,none,none,none,none,none,none,none,none,none])) [Operand.tmp 15,Operand.tmp 16]++avList AV.unit)) (go (Prod.fst (Prod.fst b)) (IntKind.wrap IntKind.i64 (x1+1)) (List.set x2 (Int.toNat x1) (Prod.fst (Prod.snd b)))) none) none) (K0 x0 x2)
def laws_markValueSS_L0 (D:DX)(n:Nat) (K0:Int→tRows→Option ((Int×Unit)×tRows×Unit)):Nat→(Int)→(Int)→(tRows)→Option ((Int×Unit)×tRows×Unit) | 0=>(fun x0 x1 x2=>none) | m+1=>(fun x0 x1 x2=>laws_markValueSS_b0 D n (laws_markValueSS_L0 D n K0 m) K0 x0 x1 x2)
def laws_markValueSS_x0_0 (D:DX)(n:Nat) (v0_0:Int) (v0_1:tRows):Option ((Int×Unit)×tRows×Unit):=some ((v0_0,()),v0_1,())
def laws_markValueSS_LP0 (D:DX)(n:Nat):(Int)→(Int)→(tRows)→Option ((Int×Unit)×tRows×Unit):=(fun x0 x1 x2=>laws_markValueSS_L0 D n (fun v0_0 v0_1=>laws_markValueSS_x0_0 D n v0_0 v0_1) n x0 x1 x2)
def laws_markValueSS_e (D:DX)(n:Nat) (lp0:Int→Int→tRows→Option ((Int×Unit)×tRows×Unit)) (a0:tRows) (a1:Int):Option ((Int×Unit)×tRows×Unit):=lp0 a1 0 a0
def F_laws_markValueSS (D:DX)(n:Nat) (a0:tRows) (a1:Int):Option ((Int×Unit)×tRows×Unit):=laws_markValueSS_e D n (laws_markValueSS_LP0 D n) a0 a1
def laws_markValueSS_Q0 (x0:Int) (x1:Int) (x2:tRows):St:=stq 19 [(0,AV.brw 0 [] 1048576),(1,avI x0),(5,avI x1)] [(0,Root.mk (Ty.sl (Ty.sl yV)) (Mk.own 1048576 (Mk.own 0 (Mk.pr Mk.no (Mk.pr Mk.no (Mk.pr Mk.no Mk.no))))) x2 false)] 
def laws_markValueSS_Q0_0 (v0_0:Int) (v0_1:tRows):St:=stq 19 [(0,AV.brw 0 [] 1048576),(1,avI v0_0)] [(0,Root.mk (Ty.sl (Ty.sl yV)) (Mk.own 1048576 (Mk.own 0 (Mk.pr Mk.no (Mk.pr Mk.no (Mk.pr Mk.no Mk.no))))) v0_1 false)] 
theorem laws_markValueSS_SB0 (D:DX)(n:Nat) (m:Nat) (K:Ex→St→Option (Out ctx 130)) (x0:Int) (x1:Int) (x2:tRows) :
  LQ funcTab D n 130 [.r,.l,.r,.l] (m+1) (laws_markValueSS_Q0 x0 x1 x2) K=laws_markValueSS_b0 D n (fun x0 x1 x2=>LQ funcTab D n 130 [.r,.l,.r,.l] m (laws_markValueSS_Q0 x0 x1 x2) K) (fun v0_0 v0_1=>K (Ex.exit 0) (laws_markValueSS_Q0_0 v0_0 v0_1)) x0 x1 x2:=by kernel_rfl
theorem laws_markValueSS_EL0 (D:DX)(n:Nat) (K:Ex→St→Option (Out ctx 130)):∀ (m:Nat) (x0:Int) (x1:Int) (x2:tRows),LQ funcTab D n 130 [.r,.l,.r,.l] m (laws_markValueSS_Q0 x0 x1 x2) K=laws_markValueSS_L0 D n (fun v0_0 v0_1=>K (Ex.exit 0) (laws_markValueSS_Q0_0 v0_0 v0_1)) m x0 x1 x2
  | 0,x0,x1,x2=>LQ_zero ..
  | m+1,x0,x1,x2=>by
    have ih:(fun x0 x1 x2=>LQ funcTab D n 130 [.r,.l,.r,.l] m (laws_markValueSS_Q0 x0 x1 x2) K)=laws_markValueSS_L0 D n (fun v0_0 v0_1=>K (Ex.exit 0) (laws_markValueSS_Q0_0 v0_0 v0_1)) m:=by funext x0 x1 x2;exact laws_markValueSS_EL0 D n K m x0 x1 x2
    rw[laws_markValueSS_SB0]
    rw[ih];rfl
theorem laws_markValueSS_X0_0 (D:DX)(n:Nat) (v0_0:Int) (v0_1:tRows) :
  (CQ funcTab D n 130 [] [.r,.l,.r,.l] (lastK funcTab 130)) (Ex.exit 0) (laws_markValueSS_Q0_0 v0_0 v0_1)=laws_markValueSS_x0_0 D n v0_0 v0_1:=by kernel_rfl
theorem laws_markValueSS_ELP0 (D:DX)(n:Nat) (x0:Int) (x1:Int) (x2:tRows) :
  LQ funcTab D n 130 [.r,.l,.r,.l] n (laws_markValueSS_Q0 x0 x1 x2) (CQ funcTab D n 130 [] [.r,.l,.r,.l] (lastK funcTab 130))=laws_markValueSS_LP0 D n x0 x1 x2:=by
  rw[laws_markValueSS_EL0]
  simp only[laws_markValueSS_X0_0]
  rfl
theorem E_laws_markValueSS (D:DX)(n:Nat) (a0:tRows) (a1:Int):rfC funcTab D n 130 (a0,(a1,()))=F_laws_markValueSS D n a0 a1:=by
  have h:rfC funcTab D n 130 (a0,(a1,()))=laws_markValueSS_e D n (fun x0 x1 x2=>LQ funcTab D n 130 [.r,.l,.r,.l] n (laws_markValueSS_Q0 x0 x1 x2) (CQ funcTab D n 130 [] [.r,.l,.r,.l] (lastK funcTab 130))) a0 a1:=by kernel_rfl
  rw[h]
  simp only[laws_markValueSS_ELP0]
  rfl

def laws_markText_b0 (D:DX)(n:Nat) (go:Int→ByteArray→Option ((ByteArray×Unit)×Unit)) (K0:ByteArray→Option ((ByteArray×Unit)×Unit)) (x0:Int) (x1:ByteArray):Option ((ByteArray×Unit)×Unit):=br (decide (x0>0)) (br (decide (ByteArray.size (ByteArray.mk (List.toArray (List.map (fun n↦UInt8.ofNat (Int.toNat n)) [IntKind.wrap IntKind.u8 (IntKind.wrap IntKind.i64 (48+Int.tmod x0 10))])))+ByteArray.size x1≤Nat.pow 2 47)) (go (IntKind.wrap IntKind.i64 (Int.tdiv x0 10)) (ByteArray.append (ByteArray.mk (List.toArray (List.map (fun n↦UInt8.ofNat (Int.toNat n)) [IntKind.wrap IntKind.u8 (IntKind.wrap IntKind.i64 (48+Int.tmod x0 10))]))) x1)) none) (K0 x1)
def laws_markText_L0 (D:DX)(n:Nat) (K0:ByteArray→Option ((ByteArray×Unit)×Unit)):Nat→(Int)→(ByteArray)→Option ((ByteArray×Unit)×Unit) | 0=>(fun x0 x1=>none) | m+1=>(fun x0 x1=>laws_markText_b0 D n (laws_markText_L0 D n K0 m) K0 x0 x1)
def laws_markText_x0_0 (D:DX)(n:Nat) (v0_0:ByteArray):Option ((ByteArray×Unit)×Unit):=br (decide (ByteArray.size (ByteArray.mk #[UInt8.ofNat 109])+ByteArray.size v0_0≤Nat.pow 2 47)) (some ((ByteArray.append (ByteArray.mk #[UInt8.ofNat 109]) v0_0,()),())) none
def laws_markText_LP0 (D:DX)(n:Nat):(Int)→(ByteArray)→Option ((ByteArray×Unit)×Unit):=(fun x0 x1=>laws_markText_L0 D n (fun v0_0=>laws_markText_x0_0 D n v0_0) n x0 x1)
def laws_markText_e (D:DX)(n:Nat) (lp0:Int→ByteArray→Option ((ByteArray×Unit)×Unit)) (a0:Int):Option ((ByteArray×Unit)×Unit):=br (decide (a0≤0)) (some ((ByteArray.mk #[UInt8.ofNat 109,UInt8.ofNat 48],()),())) (lp0 a0 (ByteArray.mk #[]))
def F_laws_markText (D:DX)(n:Nat) (a0:Int):Option ((ByteArray×Unit)×Unit):=laws_markText_e D n (laws_markText_LP0 D n) a0
def laws_markText_Q0 (x0:Int) (x1:ByteArray):St:=stq 20 [(0,avI x0),(3,AV.val Ty.str x1)] [] 
def laws_markText_Q0_0 (v0_0:ByteArray):St:=stq 20 [(3,AV.val Ty.str v0_0)] [] 
theorem laws_markText_SB0 (D:DX)(n:Nat) (m:Nat) (K:Ex→St→Option (Out ctx 131)) (x0:Int) (x1:ByteArray) :
  LQ funcTab D n 131 [.r,.r,.r,.l,.l] (m+1) (laws_markText_Q0 x0 x1) K=laws_markText_b0 D n (fun x0 x1=>LQ funcTab D n 131 [.r,.r,.r,.l,.l] m (laws_markText_Q0 x0 x1) K) (fun v0_0=>K (Ex.exit 0) (laws_markText_Q0_0 v0_0)) x0 x1:=by kernel_rfl
theorem laws_markText_EL0 (D:DX)(n:Nat) (K:Ex→St→Option (Out ctx 131)):∀ (m:Nat) (x0:Int) (x1:ByteArray),LQ funcTab D n 131 [.r,.r,.r,.l,.l] m (laws_markText_Q0 x0 x1) K=laws_markText_L0 D n (fun v0_0=>K (Ex.exit 0) (laws_markText_Q0_0 v0_0)) m x0 x1
  | 0,x0,x1=>LQ_zero ..
  | m+1,x0,x1=>by
    have ih:(fun x0 x1=>LQ funcTab D n 131 [.r,.r,.r,.l,.l] m (laws_markText_Q0 x0 x1) K)=laws_markText_L0 D n (fun v0_0=>K (Ex.exit 0) (laws_markText_Q0_0 v0_0)) m:=by funext x0 x1;exact laws_markText_EL0 D n K m x0 x1
    rw[laws_markText_SB0]
    rw[ih];rfl
theorem laws_markText_X0_0 (D:DX)(n:Nat) (v0_0:ByteArray) :
  (CQ funcTab D n 131 [] [.r,.r,.r,.l,.l] (lastK funcTab 131)) (Ex.exit 0) (laws_markText_Q0_0 v0_0)=laws_markText_x0_0 D n v0_0:=by kernel_rfl
theorem laws_markText_ELP0 (D:DX)(n:Nat) (x0:Int) (x1:ByteArray) :
  LQ funcTab D n 131 [.r,.r,.r,.l,.l] n (laws_markText_Q0 x0 x1) (CQ funcTab D n 131 [] [.r,.r,.r,.l,.l] (lastK funcTab 131))=laws_markText_LP0 D n x0 x1:=by
  rw[laws_markText_EL0]
  simp only[laws_markText_X0_0]
  rfl
theorem E_laws_markText (D:DX)(n:Nat) (a0:Int):rfC funcTab D n 131 (a0,())=F_laws_markText D n a0:=by
  have h:rfC funcTab D n 131 (a0,())=laws_markText_e D n (fun x0 x1=>LQ funcTab D n 131 [.r,.r,.r,.l,.l] n (laws_markText_Q0 x0 x1) (CQ funcTab D n 131 [] [.r,.r,.r,.l,.l] (lastK funcTab 131))) a0:=by kernel_rfl
  rw[h]
  simp only[laws_markText_ELP0]
  rfl

def laws_heldSchema_e (D:DX)(n:Nat) (a0:tSch) (a1:Int):Option ((Int×Unit)×Unit):=bindD (C_laws_heldColS D (Prod.fst a0) a1) fun b↦br (decide (Prod.fst (Prod.fst b)<0)) (some ((-1,()),())) (bindD (C_laws_heldIntS D (Prod.fst (Prod.snd a0)) (Prod.fst (Prod.fst b))) fun b↦br (decide (Prod.fst (Prod.fst b)<0)) (some ((-1,()),())) (bindD (C_laws_heldIndexS D (Prod.fst (Prod.snd (Prod.snd a0))) (Prod.fst (Prod.fst b))) fun b↦br (decide (Prod.fst (Prod.fst b)<0)) (some ((-1,()),())) (some ((Prod.fst (Prod.fst b),()),()))))
def F_laws_heldSchema (D:DX)(n:Nat) (a0:tSch) (a1:Int):Option ((Int×Unit)×Unit):=laws_heldSchema_e D n a0 a1
theorem E_laws_heldSchema (D:DX)(n:Nat) (a0:tSch) (a1:Int):rfC funcTab D n 132 (a0,(a1,()))=F_laws_heldSchema D n a0 a1:=by kernel_rfl

def laws_heldValueSS_b0 (D:DX)(n:Nat) (go:tRows→Int→Int→Option ((Int×Unit)×Unit)) (K0:Int→Int→Option ((Int×Unit)×Unit)) (K1:Int→Option ((Int×Unit)×Unit)) (x0:tRows) (x1:Int) (x2:Int):Option ((Int×Unit)×Unit):=br (decide (x2<(↑(List.length x0):Int))) (br (decide (0≤x2)&&decide (x2<(↑(List.length x0):Int))) (bindD (C_laws_heldValueS D (List.getD x0 (Int.toNat x2) []) x1) fun b↦br (decide (Prod.fst (Prod.fst b)<0)) (K0 (Prod.fst (Prod.fst b)) (-1)) (go x0 (Prod.fst (Prod.fst b)) (IntKind.wrap IntKind.i64 (x2+1)))) none) (K1 x1)
def laws_heldValueSS_L0 (D:DX)(n:Nat) (K0:Int→Int→Option ((Int×Unit)×Unit)) (K1:Int→Option ((Int×Unit)×Unit)):Nat→(tRows)→(Int)→(Int)→Option ((Int×Unit)×Unit) | 0=>(fun x0 x1 x2=>none) | m+1=>(fun x0 x1 x2=>laws_heldValueSS_b0 D n (laws_heldValueSS_L0 D n K0 K1 m) K0 K1 x0 x1 x2)
def laws_heldValueSS_x0_0 (D:DX)(n:Nat) (v0_0:Int) (v0_1:Int):Option ((Int×Unit)×Unit):=some ((v0_1,()),())
def laws_heldValueSS_x0_1 (D:DX)(n:Nat) (v1_0:Int):Option ((Int×Unit)×Unit):=some ((v1_0,()),())
def laws_heldValueSS_LP0 (D:DX)(n:Nat):(tRows)→(Int)→(Int)→Option ((Int×Unit)×Unit):=(fun x0 x1 x2=>laws_heldValueSS_L0 D n (fun v0_0 v0_1=>laws_heldValueSS_x0_0 D n v0_0 v0_1) (fun v1_0=>laws_heldValueSS_x0_1 D n v1_0) n x0 x1 x2)
def laws_heldValueSS_e (D:DX)(n:Nat) (lp0:tRows→Int→Int→Option ((Int×Unit)×Unit)) (a0:tRows) (a1:Int):Option ((Int×Unit)×Unit):=lp0 a0 a1 0
def F_laws_heldValueSS (D:DX)(n:Nat) (a0:tRows) (a1:Int):Option ((Int×Unit)×Unit):=laws_heldValueSS_e D n (laws_heldValueSS_LP0 D n) a0 a1
def laws_heldValueSS_Q0 (x0:tRows) (x1:Int) (x2:Int):St:=stq 21 [(0,AV.val (Ty.sl (Ty.sl yV)) x0),(1,avI x1),(5,avI x2)] [] 
def laws_heldValueSS_Q0_0 (v0_0:Int) (v0_1:Int):St:=stq 21 [(1,avI v0_0),(4,avI v0_1)] [] 
def laws_heldValueSS_Q0_1 (v1_0:Int):St:=stq 21 [(1,avI v1_0)] [] 
theorem laws_heldValueSS_SB0 (D:DX)(n:Nat) (m:Nat) (K:Ex→St→Option (Out ctx 133)) (x0:tRows) (x1:Int) (x2:Int) :
  LQ funcTab D n 133 [.r,.l,.r,.l] (m+1) (laws_heldValueSS_Q0 x0 x1 x2) K=laws_heldValueSS_b0 D n (fun x0 x1 x2=>LQ funcTab D n 133 [.r,.l,.r,.l] m (laws_heldValueSS_Q0 x0 x1 x2) K) (fun v0_0 v0_1=>K (Ex.ret) (laws_heldValueSS_Q0_0 v0_0 v0_1)) (fun v1_0=>K (Ex.exit 0) (laws_heldValueSS_Q0_1 v1_0)) x0 x1 x2:=by kernel_rfl
theorem laws_heldValueSS_EL0 (D:DX)(n:Nat) (K:Ex→St→Option (Out ctx 133)):∀ (m:Nat) (x0:tRows) (x1:Int) (x2:Int),LQ funcTab D n 133 [.r,.l,.r,.l] m (laws_heldValueSS_Q0 x0 x1 x2) K=laws_heldValueSS_L0 D n (fun v0_0 v0_1=>K (Ex.ret) (laws_heldValueSS_Q0_0 v0_0 v0_1)) (fun v1_0=>K (Ex.exit 0) (laws_heldValueSS_Q0_1 v1_0)) m x0 x1 x2
  | 0,x0,x1,x2=>LQ_zero ..
  | m+1,x0,x1,x2=>by
    have ih:(fun x0 x1 x2=>LQ funcTab D n 133 [.r,.l,.r,.l] m (laws_heldValueSS_Q0 x0 x1 x2) K)=laws_heldValueSS_L0 D n (fun v0_0 v0_1=>K (Ex.ret) (laws_heldValueSS_Q0_0 v0_0 v0_1)) (fun v1_0=>K (Ex.exit 0) (laws_heldValueSS_Q0_1 v1_0)) m:=by funext x0 x1 x2;exact laws_heldValueSS_EL0 D n K m x0 x1 x2
    rw[laws_heldValueSS_SB0]
    rw[ih];rfl
theorem laws_heldValueSS_X0_0 (D:DX)(n:Nat) (v0_0:Int) (v0_1:Int) :
  (CQ funcTab D n 133 [] [.r,.l,.r,.l] (lastK funcTab 133)) (Ex.ret) (laws_heldValueSS_Q0_0 v0_0 v0_1)=laws_heldValueSS_x0_0 D n v0_0 v0_1:=by kernel_rfl
theorem laws_heldValueSS_X0_1 (D:DX)(n:Nat) (v1_0:Int) :
  (CQ funcTab D n 133 [] [.r,.l,.r,.l] (lastK funcTab 133)) (Ex.exit 0) (laws_heldValueSS_Q0_1 v1_0)=laws_heldValueSS_x0_1 D n v1_0:=by kernel_rfl
theorem laws_heldValueSS_ELP0 (D:DX)(n:Nat) (x0:tRows) (x1:Int) (x2:Int) :
  LQ funcTab D n 133 [.r,.l,.r,.l] n (laws_heldValueSS_Q0 x0 x1 x2) (CQ funcTab D n 133 [] [.r,.l,.r,.l] (lastK funcTab 133))=laws_heldValueSS_LP0 D n x0 x1 x2:=by
  rw[laws_heldValueSS_EL0]
  simp only[laws_heldValueSS_X0_0,laws_heldValueSS_X0_1]
  rfl
theorem E_laws_heldValueSS (D:DX)(n:Nat) (a0:tRows) (a1:Int):rfC funcTab D n 133 (a0,(a1,()))=F_laws_heldValueSS D n a0 a1:=by
  have h:rfC funcTab D n 133 (a0,(a1,()))=laws_heldValueSS_e D n (fun x0 x1 x2=>LQ funcTab D n 133 [.r,.l,.r,.l] n (laws_heldValueSS_Q0 x0 x1 x2) (CQ funcTab D n 133 [] [.r,.l,.r,.l] (lastK funcTab 133))) a0 a1:=by kernel_rfl
  rw[h]
  simp only[laws_heldValueSS_ELP0]
  rfl

def slices_Clone_int_int_e (D:DX)(n:Nat) (a0:List Int):Option ((List Int×Unit)×Unit):=br (decide (Int.toNat (↑(List.length a0):Int)=0)) (both (some (([],()),())) (br (decide (0+List.length a0≤bound)) (some (([]++a0,()),())) none)) (br (decide (0+List.length a0≤bound)) (some (([]++a0,()),())) none)
def F_slices_Clone_int_int (D:DX)(n:Nat) (a0:List Int):Option ((List Int×Unit)×Unit):=slices_Clone_int_int_e D n a0
theorem E_slices_Clone_int_int (D:DX)(n:Nat) (a0:List Int):rfC funcTab D n 138 (a0,())=F_slices_Clone_int_int D n a0:=by kernel_rfl

def impl_ValueOk_e (D:DX)(n:Nat) (a0:Int×Int×ByteArray×Unit):Option ((Bool×Unit)×Unit):=br (decide (Prod.fst a0=0)) (some ((bif decide (Prod.fst (Prod.snd a0)=0) then List.beq (ByteArray.toList (Prod.fst (Prod.snd (Prod.snd a0)))) (ByteArray.toList (ByteArray.mk #[])) else false,()),())) (br (decide (Prod.fst a0=1)) (bindD (C_impl_from D (Prod.fst (Prod.snd a0)) 0 1) fun b↦some ((bif Prod.fst (Prod.fst b) then List.beq (ByteArray.toList (Prod.fst (Prod.snd (Prod.snd a0)))) (ByteArray.toList (ByteArray.mk #[])) else false,()),())) (br (decide (Prod.fst a0=2)) (bindD (C_impl_from D (Prod.fst (Prod.snd a0)) (-1000000000000) 1000000000000) fun b↦some ((bif Prod.fst (Prod.fst b) then List.beq (ByteArray.toList (Prod.fst (Prod.snd (Prod.snd a0)))) (ByteArray.toList (ByteArray.mk #[])) else false,()),())) (br (decide (Prod.fst a0=3)) (some ((bif decide (Prod.fst (Prod.snd a0)=0) then decide ((↑(ByteArray.size (Prod.fst (Prod.snd (Prod.snd a0)))):Int)≤20) else false,()),())) (some ((false,()),())))))
def F_impl_ValueOk (D:DX)(n:Nat) (a0:Int×Int×ByteArray×Unit):Option ((Bool×Unit)×Unit):=impl_ValueOk_e D n a0
theorem E_impl_ValueOk (D:DX)(n:Nat) (a0:Int×Int×ByteArray×Unit):rfC funcTab D n 139 (a0,())=F_impl_ValueOk D n a0:=by kernel_rfl

def slices_CompareFunc_impl_Value_impl_Value_impl_Value_impl_Value_b0 (D:DX)(n:Nat) (a2:Clo) (go:tVals→tVals→tVals→Int→Int→Option ((Int×Unit)×Unit)) (K0:tVals→tVals→Int→Option ((Int×Unit)×Unit)) (K1:tVals→tVals→Option ((Int×Unit)×Unit)) (x0:tVals) (x1:tVals) (x2:tVals) (x3:Int) (x4:Int):Option ((Int×Unit)×Unit):=br (decide (x4<x3)) (br (decide (0≤x4)&&decide (x4<(↑(List.length x2):Int))) (br (decide (x4≥(↑(List.length x1):Int))) (K0 x0 x1 1) (br (decide (0≤x4)&&decide (x4<(↑(List.length x1):Int))) (bindD (applyClo ctx D a2 [CapV.val (Ty.pair (Ty.int IntKind.i64) (Ty.pair (Ty.int IntKind.i64) (Ty.pair Ty.str Ty.unit))) (List.getD x2 (Int.toNat x4) (0,0,ByteArray.empty,())),CapV.val (Ty.pair (Ty.int IntKind.i64) (Ty.pair (Ty.int IntKind.i64) (Ty.pair Ty.str Ty.unit))) (List.getD x1 (Int.toNat x4) (0,0,ByteArray.empty,()))] (Ty.int IntKind.i64)) fun b↦br (b != 0) (K0 x0 x1 b) (go x0 x1 x2 x3 (IntKind.wrap IntKind.i64 (x4+1)))) none)) none) (K1 x0 x1)
def slices_CompareFunc_impl_Value_impl_Value_impl_Value_impl_Value_L0 (D:DX)(n:Nat) (a2:Clo) (K0:tVals→tVals→Int→Option ((Int×Unit)×Unit)) (K1:tVals→tVals→Option ((Int×Unit)×Unit)):Nat→(tVals)→(tVals)→(tVals)→(Int)→(Int)→Option ((Int×Unit)×Unit) | 0=>(fun x0 x1 x2 x3 x4=>none) | m+1=>(fun x0 x1 x2 x3 x4=>slices_CompareFunc_impl_Value_impl_Value_impl_Value_impl_Value_b0 D n a2 (slices_CompareFunc_impl_Value_impl_Value_impl_Value_impl_Value_L0 D n a2 K0 K1 m) K0 K1 x0 x1 x2 x3 x4)
def slices_CompareFunc_impl_Value_impl_Value_impl_Value_impl_Value_x0_0 (D:DX)(n:Nat) (a2:Clo) (v0_0:tVals) (v0_1:tVals) (v0_2:Int):Option ((Int×Unit)×Unit):=some ((v0_2,()),())
def slices_CompareFunc_impl_Value_impl_Value_impl_Value_impl_Value_x0_1 (D:DX)(n:Nat) (a2:Clo) (v1_0:tVals) (v1_1:tVals):Option ((Int×Unit)×Unit):=br (decide ((↑(List.length v1_0):Int)<(↑(List.length v1_1):Int))) (some ((-1,()),())) (some ((0,()),()))
def slices_CompareFunc_impl_Value_impl_Value_impl_Value_impl_Value_LP0 (D:DX)(n:Nat) (a2:Clo):(tVals)→(tVals)→(tVals)→(Int)→(Int)→Option ((Int×Unit)×Unit):=(fun x0 x1 x2 x3 x4=>slices_CompareFunc_impl_Value_impl_Value_impl_Value_impl_Value_L0 D n a2 (fun v0_0 v0_1 v0_2=>slices_CompareFunc_impl_Value_impl_Value_impl_Value_impl_Value_x0_0 D n a2 v0_0 v0_1 v0_2) (fun v1_0 v1_1=>slices_CompareFunc_impl_Value_impl_Value_impl_Value_impl_Value_x0_1 D n a2 v1_0 v1_1) n x0 x1 x2 x3 x4)
def slices_CompareFunc_impl_Value_impl_Value_impl_Value_impl_Value_e (D:DX)(n:Nat) (a2:Clo) (lp0:tVals→tVals→tVals→Int→Int→Option ((Int×Unit)×Unit)) (a0:tVals) (a1:tVals):Option ((Int×Unit)×Unit):=lp0 a0 a1 a0 (↑(List.length a0):Int) 0
def F_slices_CompareFunc_impl_Value_impl_Value_impl_Value_impl_Value (D:DX)(n:Nat) (a0:tVals) (a1:tVals) (a2:Clo):Option ((Int×Unit)×Unit):=slices_CompareFunc_impl_Value_impl_Value_impl_Value_impl_Value_e D n a2 (slices_CompareFunc_impl_Value_impl_Value_impl_Value_impl_Value_LP0 D n a2) a0 a1
def slices_CompareFunc_impl_Value_impl_Value_impl_Value_impl_Value_Q0 (a2:Clo) (x0:tVals) (x1:tVals) (x2:tVals) (x3:Int) (x4:Int):St:=stq 39 [(0,AV.val (Ty.sl yV) x0),(1,AV.val (Ty.sl yV) x1),(2,AV.cloV a2),(11,AV.val (Ty.sl yV) x2),(12,avI x3),(13,avI x4)] [] 
def slices_CompareFunc_impl_Value_impl_Value_impl_Value_impl_Value_Q0_0 (a2:Clo) (v0_0:tVals) (v0_1:tVals) (v0_2:Int):St:=stq 39 [(0,AV.val (Ty.sl yV) v0_0),(1,AV.val (Ty.sl yV) v0_1),(6,avI v0_2)] [] 
def slices_CompareFunc_impl_Value_impl_Value_impl_Value_impl_Value_Q0_1 (a2:Clo) (v1_0:tVals) (v1_1:tVals):St:=stq 39 [(0,AV.val (Ty.sl yV) v1_0),(1,AV.val (Ty.sl yV) v1_1)] [] 
theorem slices_CompareFunc_impl_Value_impl_Value_impl_Value_impl_Value_SB0 (D:DX)(n:Nat) (a2:Clo) (m:Nat) (K:Ex→St→Option (Out ctx 140)) (x0:tVals) (x1:tVals) (x2:tVals) (x3:Int) (x4:Int) :
  LQ funcTab D n 140 [.r,.l,.r,.l] (m+1) (slices_CompareFunc_impl_Value_impl_Value_impl_Value_impl_Value_Q0 a2 x0 x1 x2 x3 x4) K=slices_CompareFunc_impl_Value_impl_Value_impl_Value_impl_Value_b0 D n a2 (fun x0 x1 x2 x3 x4=>LQ funcTab D n 140 [.r,.l,.r,.l] m (slices_CompareFunc_impl_Value_impl_Value_impl_Value_impl_Value_Q0 a2 x0 x1 x2 x3 x4) K) (fun v0_0 v0_1 v0_2=>K (Ex.ret) (slices_CompareFunc_impl_Value_impl_Value_impl_Value_impl_Value_Q0_0 a2 v0_0 v0_1 v0_2)) (fun v1_0 v1_1=>K (Ex.exit 0) (slices_CompareFunc_impl_Value_impl_Value_impl_Value_impl_Value_Q0_1 a2 v1_0 v1_1)) x0 x1 x2 x3 x4:=by kernel_rfl
theorem slices_CompareFunc_impl_Value_impl_Value_impl_Value_impl_Value_EL0 (D:DX)(n:Nat) (a2:Clo) (K:Ex→St→Option (Out ctx 140)):∀ (m:Nat) (x0:tVals) (x1:tVals) (x2:tVals) (x3:Int) (x4:Int),LQ funcTab D n 140 [.r,.l,.r,.l] m (slices_CompareFunc_impl_Value_impl_Value_impl_Value_impl_Value_Q0 a2 x0 x1 x2 x3 x4) K=slices_CompareFunc_impl_Value_impl_Value_impl_Value_impl_Value_L0 D n a2 (fun v0_0 v0_1 v0_2=>K (Ex.ret) (slices_CompareFunc_impl_Value_impl_Value_impl_Value_impl_Value_Q0_0 a2 v0_0 v0_1 v0_2)) (fun v1_0 v1_1=>K (Ex.exit 0) (slices_CompareFunc_impl_Value_impl_Value_impl_Value_impl_Value_Q0_1 a2 v1_0 v1_1)) m x0 x1 x2 x3 x4
  | 0,x0,x1,x2,x3,x4=>LQ_zero ..
  | m+1,x0,x1,x2,x3,x4=>by
    have ih:(fun x0 x1 x2 x3 x4=>LQ funcTab D n 140 [.r,.l,.r,.l] m (slices_CompareFunc_impl_Value_impl_Value_impl_Value_impl_Value_Q0 a2 x0 x1 x2 x3 x4) K)=slices_CompareFunc_impl_Value_impl_Value_impl_Value_impl_Value_L0 D n a2 (fun v0_0 v0_1 v0_2=>K (Ex.ret) (slices_CompareFunc_impl_Value_impl_Value_impl_Value_impl_Value_Q0_0 a2 v0_0 v0_1 v0_2)) (fun v1_0 v1_1=>K (Ex.exit 0) (slices_CompareFunc_impl_Value_impl_Value_impl_Value_impl_Value_Q0_1 a2 v1_0 v1_1)) m:=by funext x0 x1 x2 x3 x4;exact slices_CompareFunc_impl_Value_impl_Value_impl_Value_impl_Value_EL0 D n a2 K m x0 x1 x2 x3 x4
    rw[slices_CompareFunc_impl_Value_impl_Value_impl_Value_impl_Value_SB0]
    rw[ih];rfl
theorem slices_CompareFunc_impl_Value_impl_Value_impl_Value_impl_Value_X0_0 (D:DX)(n:Nat) (a2:Clo) (v0_0:tVals) (v0_1:tVals) (v0_2:Int) :
  (CQ funcTab D n 140 [] [.r,.l,.r,.l] (lastK funcTab 140)) (Ex.ret) (slices_CompareFunc_impl_Value_impl_Value_impl_Value_impl_Value_Q0_0 a2 v0_0 v0_1 v0_2)=slices_CompareFunc_impl_Value_impl_Value_impl_Value_impl_Value_x0_0 D n a2 v0_0 v0_1 v0_2:=by kernel_rfl
theorem slices_CompareFunc_impl_Value_impl_Value_impl_Value_impl_Value_X0_1 (D:DX)(n:Nat) (a2:Clo) (v1_0:tVals) (v1_1:tVals) :
  (CQ funcTab D n 140 [] [.r,.l,.r,.l] (lastK funcTab 140)) (Ex.exit 0) (slices_CompareFunc_impl_Value_impl_Value_impl_Value_impl_Value_Q0_1 a2 v1_0 v1_1)=slices_CompareFunc_impl_Value_impl_Value_impl_Value_impl_Value_x0_1 D n a2 v1_0 v1_1:=by kernel_rfl
theorem slices_CompareFunc_impl_Value_impl_Value_impl_Value_impl_Value_ELP0 (D:DX)(n:Nat) (a2:Clo) (x0:tVals) (x1:tVals) (x2:tVals) (x3:Int) (x4:Int) :
  LQ funcTab D n 140 [.r,.l,.r,.l] n (slices_CompareFunc_impl_Value_impl_Value_impl_Value_impl_Value_Q0 a2 x0 x1 x2 x3 x4) (CQ funcTab D n 140 [] [.r,.l,.r,.l] (lastK funcTab 140))=slices_CompareFunc_impl_Value_impl_Value_impl_Value_impl_Value_LP0 D n a2 x0 x1 x2 x3 x4:=by
  rw[slices_CompareFunc_impl_Value_impl_Value_impl_Value_impl_Value_EL0]
  simp only[slices_CompareFunc_impl_Value_impl_Value_impl_Value_impl_Value_X0_0,slices_CompareFunc_impl_Value_impl_Value_impl_Value_impl_Value_X0_1]
  rfl
theorem E_slices_CompareFunc_impl_Value_impl_Value_impl_Value_impl_Value (D:DX)(n:Nat) (a0:tVals) (a1:tVals) (a2:Clo):rfC funcTab D n 140 (a0,(a1,(a2,())))=F_slices_CompareFunc_impl_Value_impl_Value_impl_Value_impl_Value D n a0 a1 a2:=by
  have h:rfC funcTab D n 140 (a0,(a1,(a2,())))=slices_CompareFunc_impl_Value_impl_Value_impl_Value_impl_Value_e D n a2 (fun x0 x1 x2 x3 x4=>LQ funcTab D n 140 [.r,.l,.r,.l] n (slices_CompareFunc_impl_Value_impl_Value_impl_Value_impl_Value_Q0 a2 x0 x1 x2 x3 x4) (CQ funcTab D n 140 [] [.r,.l,.r,.l] (lastK funcTab 140))) a0 a1:=by kernel_rfl
  rw[h]
  simp only[slices_CompareFunc_impl_Value_impl_Value_impl_Value_impl_Value_ELP0]
  rfl

def impl_byValue_e (D:DX)(n:Nat) (a0:Int×Int×ByteArray×Unit) (a1:Int×Int×ByteArray×Unit):Option ((Int×Unit)×Unit):=br (bif decide (Prod.fst a0<Prod.fst a1) then true else bif decide (Prod.fst a0=Prod.fst a1) then decide (Prod.fst (Prod.snd a0)<Prod.fst (Prod.snd a1)) else false) (some ((-1,()),())) (br (bif decide (Prod.fst a0>Prod.fst a1) then true else decide (Prod.fst (Prod.snd a0)>Prod.fst (Prod.snd a1))) (some ((1,()),())) (bindD (C_strings_Compare D (Prod.fst (Prod.snd (Prod.snd a0))) (Prod.fst (Prod.snd (Prod.snd a1)))) fun b↦some ((Prod.fst (Prod.fst b),()),())))
def F_impl_byValue (D:DX)(n:Nat) (a0:Int×Int×ByteArray×Unit) (a1:Int×Int×ByteArray×Unit):Option ((Int×Unit)×Unit):=impl_byValue_e D n a0 a1
theorem E_impl_byValue (D:DX)(n:Nat) (a0:Int×Int×ByteArray×Unit) (a1:Int×Int×ByteArray×Unit):rfC funcTab D n 141 (a0,(a1,()))=F_impl_byValue D n a0 a1:=by kernel_rfl

def slices_ContainsFunc_impl_Index_impl_Index_e (D:DX)(n:Nat) (a1:Clo) (a0:tIxs):Option ((Bool×Unit)×Unit):=bindD (C_slices_IndexFunc_impl_Index_impl_Index D a0 a1) fun b↦some ((decide (Prod.fst (Prod.fst b)≥0),()),())
def F_slices_ContainsFunc_impl_Index_impl_Index (D:DX)(n:Nat) (a0:tIxs) (a1:Clo):Option ((Bool×Unit)×Unit):=slices_ContainsFunc_impl_Index_impl_Index_e D n a1 a0
theorem E_slices_ContainsFunc_impl_Index_impl_Index (D:DX)(n:Nat) (a0:tIxs) (a1:Clo):rfC funcTab D n 142 (a0,(a1,()))=F_slices_ContainsFunc_impl_Index_impl_Index D n a0 a1:=by kernel_rfl

def impl_clash_1_e (D:DX)(n:Nat) (a0:ByteArray×List Int×Bool×Unit) (a1:tVals) (a2:tVals):Option ((Bool×Unit)×Unit):=bindD (C_impl_Project D a1 (Prod.fst (Prod.snd a0))) fun b↦br (Prod.fst (Prod.snd (Prod.snd a0))) (bindD (C_slices_Contains_impl_Value_impl_Value D (Prod.fst (Prod.fst b)) (0,0,ByteArray.empty,())) fun b_1↦br (!Prod.fst (Prod.fst b_1)) (bindD (C_impl_Project D a2 (Prod.fst (Prod.snd a0))) fun b_2↦bindD (C_slices_Equal_impl_Value_impl_Value D (Prod.fst (Prod.fst b)) (Prod.fst (Prod.fst b_2))) fun b↦some ((Prod.fst (Prod.fst b),()),())) (some ((false,()),()))) (some ((false,()),()))
def F_impl_clash_1 (D:DX)(n:Nat) (a0:ByteArray×List Int×Bool×Unit) (a1:tVals) (a2:tVals):Option ((Bool×Unit)×Unit):=impl_clash_1_e D n a0 a1 a2
theorem E_impl_clash_1 (D:DX)(n:Nat) (a0:ByteArray×List Int×Bool×Unit) (a1:tVals) (a2:tVals):rfC funcTab D n 143 (a0,(a1,(a2,())))=F_impl_clash_1 D n a0 a1 a2:=by kernel_rfl

def slices_Contains_impl_Value_impl_Value_e (D:DX)(n:Nat) (a0:tVals) (a1:Int×Int×ByteArray×Unit):Option ((Bool×Unit)×Unit):=bindD (C_slices_Index_impl_Value_impl_Value D a0 a1) fun b↦some ((decide (Prod.fst (Prod.fst b)≥0),()),())
def F_slices_Contains_impl_Value_impl_Value (D:DX)(n:Nat) (a0:tVals) (a1:Int×Int×ByteArray×Unit):Option ((Bool×Unit)×Unit):=slices_Contains_impl_Value_impl_Value_e D n a0 a1
theorem E_slices_Contains_impl_Value_impl_Value (D:DX)(n:Nat) (a0:tVals) (a1:Int×Int×ByteArray×Unit):rfC funcTab D n 144 (a0,(a1,()))=F_slices_Contains_impl_Value_impl_Value D n a0 a1:=by kernel_rfl

def slices_Equal_impl_Value_impl_Value_b0 (D:DX)(n:Nat) (go:tVals→tVals→Int→Int→Option ((Bool×Unit)×Unit)) (K0:Bool→Option ((Bool×Unit)×Unit)) (K1:Option ((Bool×Unit)×Unit)) (x0:tVals) (x1:tVals) (x2:Int) (x3:Int):Option ((Bool×Unit)×Unit):=br (decide (x3<x2)) (br (decide (0≤x3)&&decide (x3<(↑(List.length x0):Int))) (br (decide (0≤x3)&&decide (x3<(↑(List.length x1):Int))) (br (!eqDen (Ty.pair (Ty.int IntKind.i64) (Ty.pair (Ty.int IntKind.i64) (Ty.pair Ty.str Ty.unit))) (List.getD x0 (Int.toNat x3) (0,0,ByteArray.empty,())) (List.getD x1 (Int.toNat x3) (0,0,ByteArray.empty,()))) (K0 false) (go x0 x1 x2 (IntKind.wrap IntKind.i64 (x3+1)))) none) none) K1
def slices_Equal_impl_Value_impl_Value_L0 (D:DX)(n:Nat) (K0:Bool→Option ((Bool×Unit)×Unit)) (K1:Option ((Bool×Unit)×Unit)):Nat→(tVals)→(tVals)→(Int)→(Int)→Option ((Bool×Unit)×Unit) | 0=>(fun x0 x1 x2 x3=>none) | m+1=>(fun x0 x1 x2 x3=>slices_Equal_impl_Value_impl_Value_b0 D n (slices_Equal_impl_Value_impl_Value_L0 D n K0 K1 m) K0 K1 x0 x1 x2 x3)
def slices_Equal_impl_Value_impl_Value_x0_0 (D:DX)(n:Nat) (v0_0:Bool):Option ((Bool×Unit)×Unit):=some ((v0_0,()),())
def slices_Equal_impl_Value_impl_Value_x0_1 (D:DX)(n:Nat):Option ((Bool×Unit)×Unit):=some ((true,()),())
def slices_Equal_impl_Value_impl_Value_LP0 (D:DX)(n:Nat):(tVals)→(tVals)→(Int)→(Int)→Option ((Bool×Unit)×Unit):=(fun x0 x1 x2 x3=>slices_Equal_impl_Value_impl_Value_L0 D n (fun v0_0=>slices_Equal_impl_Value_impl_Value_x0_0 D n v0_0) (slices_Equal_impl_Value_impl_Value_x0_1 D n) n x0 x1 x2 x3)
def slices_Equal_impl_Value_impl_Value_e (D:DX)(n:Nat) (lp0:tVals→tVals→Int→Int→Option ((Bool×Unit)×Unit)) (a0:tVals) (a1:tVals):Option ((Bool×Unit)×Unit):=br ((↑(List.length a0):Int) != (↑(List.length a1):Int)) (some ((false,()),())) (lp0 a0 a1 (↑(List.length a0):Int) 0)
def F_slices_Equal_impl_Value_impl_Value (D:DX)(n:Nat) (a0:tVals) (a1:tVals):Option ((Bool×Unit)×Unit):=slices_Equal_impl_Value_impl_Value_e D n (slices_Equal_impl_Value_impl_Value_LP0 D n) a0 a1
def slices_Equal_impl_Value_impl_Value_Q0 (x0:tVals) (x1:tVals) (x2:Int) (x3:Int):St:=stq 26 [(0,AV.val (Ty.sl yV) x0),(1,AV.val (Ty.sl yV) x1),(12,avI x2),(13,avI x3)] [] 
def slices_Equal_impl_Value_impl_Value_Q0_0 (v0_0:Bool):St:=stq 26 [(4,AV.val Ty.bool v0_0)] [] 
def slices_Equal_impl_Value_impl_Value_Q0_1:St:=stq 26 [] [] 
theorem slices_Equal_impl_Value_impl_Value_SB0 (D:DX)(n:Nat) (m:Nat) (K:Ex→St→Option (Out ctx 145)) (x0:tVals) (x1:tVals) (x2:Int) (x3:Int) :
  LQ funcTab D n 145 [.r,.r,.l,.r,.l] (m+1) (slices_Equal_impl_Value_impl_Value_Q0 x0 x1 x2 x3) K=slices_Equal_impl_Value_impl_Value_b0 D n (fun x0 x1 x2 x3=>LQ funcTab D n 145 [.r,.r,.l,.r,.l] m (slices_Equal_impl_Value_impl_Value_Q0 x0 x1 x2 x3) K) (fun v0_0=>K (Ex.ret) (slices_Equal_impl_Value_impl_Value_Q0_0 v0_0)) (K (Ex.exit 0) (slices_Equal_impl_Value_impl_Value_Q0_1)) x0 x1 x2 x3:=by kernel_rfl
theorem slices_Equal_impl_Value_impl_Value_EL0 (D:DX)(n:Nat) (K:Ex→St→Option (Out ctx 145)):∀ (m:Nat) (x0:tVals) (x1:tVals) (x2:Int) (x3:Int),LQ funcTab D n 145 [.r,.r,.l,.r,.l] m (slices_Equal_impl_Value_impl_Value_Q0 x0 x1 x2 x3) K=slices_Equal_impl_Value_impl_Value_L0 D n (fun v0_0=>K (Ex.ret) (slices_Equal_impl_Value_impl_Value_Q0_0 v0_0)) (K (Ex.exit 0) (slices_Equal_impl_Value_impl_Value_Q0_1)) m x0 x1 x2 x3
  | 0,x0,x1,x2,x3=>LQ_zero ..
  | m+1,x0,x1,x2,x3=>by
    have ih:(fun x0 x1 x2 x3=>LQ funcTab D n 145 [.r,.r,.l,.r,.l] m (slices_Equal_impl_Value_impl_Value_Q0 x0 x1 x2 x3) K)=slices_Equal_impl_Value_impl_Value_L0 D n (fun v0_0=>K (Ex.ret) (slices_Equal_impl_Value_impl_Value_Q0_0 v0_0)) (K (Ex.exit 0) (slices_Equal_impl_Value_impl_Value_Q0_1)) m:=by funext x0 x1 x2 x3;exact slices_Equal_impl_Value_impl_Value_EL0 D n K m x0 x1 x2 x3
    rw[slices_Equal_impl_Value_impl_Value_SB0]
    rw[ih];rfl
theorem slices_Equal_impl_Value_impl_Value_X0_0 (D:DX)(n:Nat) (v0_0:Bool) :
  (CQ funcTab D n 145 [] [.r,.r,.l,.r,.l] (lastK funcTab 145)) (Ex.ret) (slices_Equal_impl_Value_impl_Value_Q0_0 v0_0)=slices_Equal_impl_Value_impl_Value_x0_0 D n v0_0:=by kernel_rfl
theorem slices_Equal_impl_Value_impl_Value_X0_1 (D:DX)(n:Nat) :
  (CQ funcTab D n 145 [] [.r,.r,.l,.r,.l] (lastK funcTab 145)) (Ex.exit 0) (slices_Equal_impl_Value_impl_Value_Q0_1)=slices_Equal_impl_Value_impl_Value_x0_1 D n:=by kernel_rfl
theorem slices_Equal_impl_Value_impl_Value_ELP0 (D:DX)(n:Nat) (x0:tVals) (x1:tVals) (x2:Int) (x3:Int) :
  LQ funcTab D n 145 [.r,.r,.l,.r,.l] n (slices_Equal_impl_Value_impl_Value_Q0 x0 x1 x2 x3) (CQ funcTab D n 145 [] [.r,.r,.l,.r,.l] (lastK funcTab 145))=slices_Equal_impl_Value_impl_Value_LP0 D n x0 x1 x2 x3:=by
  rw[slices_Equal_impl_Value_impl_Value_EL0]
  simp only[slices_Equal_impl_Value_impl_Value_X0_0,slices_Equal_impl_Value_impl_Value_X0_1]
  rfl
theorem E_slices_Equal_impl_Value_impl_Value (D:DX)(n:Nat) (a0:tVals) (a1:tVals):rfC funcTab D n 145 (a0,(a1,()))=F_slices_Equal_impl_Value_impl_Value D n a0 a1:=by
  have h:rfC funcTab D n 145 (a0,(a1,()))=slices_Equal_impl_Value_impl_Value_e D n (fun x0 x1 x2 x3=>LQ funcTab D n 145 [.r,.r,.l,.r,.l] n (slices_Equal_impl_Value_impl_Value_Q0 x0 x1 x2 x3) (CQ funcTab D n 145 [] [.r,.r,.l,.r,.l] (lastK funcTab 145))) a0 a1:=by kernel_rfl
  rw[h]
  simp only[slices_Equal_impl_Value_impl_Value_ELP0]
  rfl

def impl_ColNameOk_b0 (D:DX)(n:Nat) (go:ByteArray→Int→Int→Option ((Bool×Unit)×Unit)) (K0:ByteArray→Bool→Option ((Bool×Unit)×Unit)) (K1:ByteArray→Option ((Bool×Unit)×Unit)) (x0:ByteArray) (x1:Int) (x2:Int):Option ((Bool×Unit)×Unit):=br (decide (x2<x1)) (br (decide (0≤x2)&&decide (x2<(↑(ByteArray.size x0):Int))) (br (decide ((↑(UInt8.toNat (Array.getD (ByteArray.data x0) (Int.toNat x2) (UInt8.ofNat 0))):Int)<97)) (K0 x0 false) (br (decide (0≤x2)&&decide (x2<(↑(ByteArray.size x0):Int))) (br (decide ((↑(UInt8.toNat (Array.getD (ByteArray.data x0) (Int.toNat x2) (UInt8.ofNat 0))):Int)>122)) (K0 x0 false) (go x0 x1 (IntKind.wrap IntKind.i64 (x2+1)))) none)) none) (K1 x0)
def impl_ColNameOk_L0 (D:DX)(n:Nat) (K0:ByteArray→Bool→Option ((Bool×Unit)×Unit)) (K1:ByteArray→Option ((Bool×Unit)×Unit)):Nat→(ByteArray)→(Int)→(Int)→Option ((Bool×Unit)×Unit) | 0=>(fun x0 x1 x2=>none) | m+1=>(fun x0 x1 x2=>impl_ColNameOk_b0 D n (impl_ColNameOk_L0 D n K0 K1 m) K0 K1 x0 x1 x2)
def impl_ColNameOk_x0_0 (D:DX)(n:Nat) (v0_0:ByteArray) (v0_1:Bool):Option ((Bool×Unit)×Unit):=some ((v0_1,()),())
def impl_ColNameOk_x0_1 (D:DX)(n:Nat) (v1_0:ByteArray):Option ((Bool×Unit)×Unit):=bindD (C_impl_from D (↑(ByteArray.size v1_0):Int) 1 12) fun b↦some ((Prod.fst (Prod.fst b),()),())
def impl_ColNameOk_LP0 (D:DX)(n:Nat):(ByteArray)→(Int)→(Int)→Option ((Bool×Unit)×Unit):=(fun x0 x1 x2=>impl_ColNameOk_L0 D n (fun v0_0 v0_1=>impl_ColNameOk_x0_0 D n v0_0 v0_1) (fun v1_0=>impl_ColNameOk_x0_1 D n v1_0) n x0 x1 x2)
def impl_ColNameOk_e (D:DX)(n:Nat) (lp0:ByteArray→Int→Int→Option ((Bool×Unit)×Unit)) (a0:ByteArray):Option ((Bool×Unit)×Unit):=lp0 a0 (↑(ByteArray.size a0):Int) 0
def F_impl_ColNameOk (D:DX)(n:Nat) (a0:ByteArray):Option ((Bool×Unit)×Unit):=impl_ColNameOk_e D n (impl_ColNameOk_LP0 D n) a0
def impl_ColNameOk_Q0 (x0:ByteArray) (x1:Int) (x2:Int):St:=stq 23 [(0,AV.val Ty.str x0),(5,avI x1),(6,avI x2)] [] 
def impl_ColNameOk_Q0_0 (v0_0:ByteArray) (v0_1:Bool):St:=stq 23 [(0,AV.val Ty.str v0_0),(2,AV.val Ty.bool v0_1)] [] 
def impl_ColNameOk_Q0_1 (v1_0:ByteArray):St:=stq 23 [(0,AV.val Ty.str v1_0)] [] 
theorem impl_ColNameOk_SB0 (D:DX)(n:Nat) (m:Nat) (K:Ex→St→Option (Out ctx 146)) (x0:ByteArray) (x1:Int) (x2:Int) :
  LQ funcTab D n 146 [.r,.l,.r,.l] (m+1) (impl_ColNameOk_Q0 x0 x1 x2) K=impl_ColNameOk_b0 D n (fun x0 x1 x2=>LQ funcTab D n 146 [.r,.l,.r,.l] m (impl_ColNameOk_Q0 x0 x1 x2) K) (fun v0_0 v0_1=>K (Ex.ret) (impl_ColNameOk_Q0_0 v0_0 v0_1)) (fun v1_0=>K (Ex.exit 0) (impl_ColNameOk_Q0_1 v1_0)) x0 x1 x2:=by kernel_rfl
theorem impl_ColNameOk_EL0 (D:DX)(n:Nat) (K:Ex→St→Option (Out ctx 146)):∀ (m:Nat) (x0:ByteArray) (x1:Int) (x2:Int),LQ funcTab D n 146 [.r,.l,.r,.l] m (impl_ColNameOk_Q0 x0 x1 x2) K=impl_ColNameOk_L0 D n (fun v0_0 v0_1=>K (Ex.ret) (impl_ColNameOk_Q0_0 v0_0 v0_1)) (fun v1_0=>K (Ex.exit 0) (impl_ColNameOk_Q0_1 v1_0)) m x0 x1 x2
  | 0,x0,x1,x2=>LQ_zero ..
  | m+1,x0,x1,x2=>by
    have ih:(fun x0 x1 x2=>LQ funcTab D n 146 [.r,.l,.r,.l] m (impl_ColNameOk_Q0 x0 x1 x2) K)=impl_ColNameOk_L0 D n (fun v0_0 v0_1=>K (Ex.ret) (impl_ColNameOk_Q0_0 v0_0 v0_1)) (fun v1_0=>K (Ex.exit 0) (impl_ColNameOk_Q0_1 v1_0)) m:=by funext x0 x1 x2;exact impl_ColNameOk_EL0 D n K m x0 x1 x2
    rw[impl_ColNameOk_SB0]
    rw[ih];rfl
theorem impl_ColNameOk_X0_0 (D:DX)(n:Nat) (v0_0:ByteArray) (v0_1:Bool) :
  (CQ funcTab D n 146 [] [.r,.l,.r,.l] (lastK funcTab 146)) (Ex.ret) (impl_ColNameOk_Q0_0 v0_0 v0_1)=impl_ColNameOk_x0_0 D n v0_0 v0_1:=by kernel_rfl
theorem impl_ColNameOk_X0_1 (D:DX)(n:Nat) (v1_0:ByteArray) :
  (CQ funcTab D n 146 [] [.r,.l,.r,.l] (lastK funcTab 146)) (Ex.exit 0) (impl_ColNameOk_Q0_1 v1_0)=impl_ColNameOk_x0_1 D n v1_0:=by kernel_rfl
theorem impl_ColNameOk_ELP0 (D:DX)(n:Nat) (x0:ByteArray) (x1:Int) (x2:Int) :
  LQ funcTab D n 146 [.r,.l,.r,.l] n (impl_ColNameOk_Q0 x0 x1 x2) (CQ funcTab D n 146 [] [.r,.l,.r,.l] (lastK funcTab 146))=impl_ColNameOk_LP0 D n x0 x1 x2:=by
  rw[impl_ColNameOk_EL0]
  simp only[impl_ColNameOk_X0_0,impl_ColNameOk_X0_1]
  rfl
theorem E_impl_ColNameOk (D:DX)(n:Nat) (a0:ByteArray):rfC funcTab D n 146 (a0,())=F_impl_ColNameOk D n a0:=by
  have h:rfC funcTab D n 146 (a0,())=impl_ColNameOk_e D n (fun x0 x1 x2=>LQ funcTab D n 146 [.r,.l,.r,.l] n (impl_ColNameOk_Q0 x0 x1 x2) (CQ funcTab D n 146 [] [.r,.l,.r,.l] (lastK funcTab 146))) a0:=by kernel_rfl
  rw[h]
  simp only[impl_ColNameOk_ELP0]
  rfl

def impl_ColAt_e (D:DX)(n:Nat) (a0:tSch) (a1:ByteArray):Option ((Int×Unit)×Unit):=bindD (C_slices_IndexFunc_impl_Col_impl_Col D (Prod.fst a0) (Clo.mk 196 [CapV.rptr Ty.str a1])) fun b↦some ((Prod.fst (Prod.fst b),()),())
def F_impl_ColAt (D:DX)(n:Nat) (a0:tSch) (a1:ByteArray):Option ((Int×Unit)×Unit):=impl_ColAt_e D n a0 a1
theorem E_impl_ColAt (D:DX)(n:Nat) (a0:tSch) (a1:ByteArray):rfC funcTab D n 147 (a0,(a1,()))=F_impl_ColAt D n a0 a1:=by kernel_rfl

def impl_placesOk_b0 (D:DX)(n:Nat) (go:List Int→Int→List Int→Int→Int→tSch→Option ((Bool×Unit)×Unit)) (K0:List Int→Int→Bool→Option ((Bool×Unit)×Unit)) (K1:List Int→Int→Option ((Bool×Unit)×Unit)) (x0:List Int) (x1:Int) (x2:List Int) (x3:Int) (x4:Int) (x5:tSch):Option ((Bool×Unit)×Unit):=br (decide (x4<x3)) (br (decide (0≤x4)&&decide (x4<(↑(List.length x2):Int))) (bindD (C_impl_from D (List.getD x2 (Int.toNat x4) 0) 0 (IntKind.wrap IntKind.i64 ((↑(List.length (Prod.fst x5)):Int) - 1))) fun b↦br (!Prod.fst (Prod.fst b)) (K0 x0 x1 false) (br (decide (0≤0)&&decide (0≤x4)&&decide (x4≤(↑(List.length x0):Int))) (bindD (C_slices_Contains_int_int D (List.drop (Int.toNat 0) (List.take (Int.toNat x4) x0)) (List.getD x2 (Int.toNat x4) 0)) fun b↦br (Prod.fst (Prod.fst b)) (K0 x0 x1 false) (go x0 x1 x2 x3 (IntKind.wrap IntKind.i64 (x4+1)) x5)) none)) none) (K1 x0 x1)
def impl_placesOk_L0 (D:DX)(n:Nat) (K0:List Int→Int→Bool→Option ((Bool×Unit)×Unit)) (K1:List Int→Int→Option ((Bool×Unit)×Unit)):Nat→(List Int)→(Int)→(List Int)→(Int)→(Int)→(tSch)→Option ((Bool×Unit)×Unit) | 0=>(fun x0 x1 x2 x3 x4 x5=>none) | m+1=>(fun x0 x1 x2 x3 x4 x5=>impl_placesOk_b0 D n (impl_placesOk_L0 D n K0 K1 m) K0 K1 x0 x1 x2 x3 x4 x5)
def impl_placesOk_x0_0 (D:DX)(n:Nat) (v0_0:List Int) (v0_1:Int) (v0_2:Bool):Option ((Bool×Unit)×Unit):=some ((v0_2,()),())
def impl_placesOk_x0_1 (D:DX)(n:Nat) (v1_0:List Int) (v1_1:Int):Option ((Bool×Unit)×Unit):=bindD (C_impl_from D (↑(List.length v1_0):Int) 1 v1_1) fun b↦some ((Prod.fst (Prod.fst b),()),())
def impl_placesOk_LP0 (D:DX)(n:Nat):(List Int)→(Int)→(List Int)→(Int)→(Int)→(tSch)→Option ((Bool×Unit)×Unit):=(fun x0 x1 x2 x3 x4 x5=>impl_placesOk_L0 D n (fun v0_0 v0_1 v0_2=>impl_placesOk_x0_0 D n v0_0 v0_1 v0_2) (fun v1_0 v1_1=>impl_placesOk_x0_1 D n v1_0 v1_1) n x0 x1 x2 x3 x4 x5)
def impl_placesOk_e (D:DX)(n:Nat) (lp0:List Int→Int→List Int→Int→Int→tSch→Option ((Bool×Unit)×Unit)) (a0:tSch) (a1:List Int) (a2:Int):Option ((Bool×Unit)×Unit):=lp0 a1 a2 a1 (↑(List.length a1):Int) 0 a0
def F_impl_placesOk (D:DX)(n:Nat) (a0:tSch) (a1:List Int) (a2:Int):Option ((Bool×Unit)×Unit):=impl_placesOk_e D n (impl_placesOk_LP0 D n) a0 a1 a2
def impl_placesOk_Q0 (x0:List Int) (x1:Int) (x2:List Int) (x3:Int) (x4:Int) (x5:tSch):St:=stq 35 [(1,AV.val (Ty.sl yI) x0),(2,avI x1),(3,AV.addr 3 []),(9,AV.val (Ty.sl yI) x2),(10,avI x3),(11,avI x4)] [(3,Root.mk yS Mk.no x5 true)] 
def impl_placesOk_Q0_0 (v0_0:List Int) (v0_1:Int) (v0_2:Bool):St:=stq 35 [(1,AV.val (Ty.sl yI) v0_0),(2,avI v0_1),(6,AV.val Ty.bool v0_2)] [] 
def impl_placesOk_Q0_1 (v1_0:List Int) (v1_1:Int):St:=stq 35 [(1,AV.val (Ty.sl yI) v1_0),(2,avI v1_1)] [] 
theorem impl_placesOk_SB0 (D:DX)(n:Nat) (m:Nat) (K:Ex→St→Option (Out ctx 148)) (x0:List Int) (x1:Int) (x2:List Int) (x3:Int) (x4:Int) (x5:tSch) :
  LQ funcTab D n 148 [.r,.l,.r,.l] (m+1) (impl_placesOk_Q0 x0 x1 x2 x3 x4 x5) K=impl_placesOk_b0 D n (fun x0 x1 x2 x3 x4 x5=>LQ funcTab D n 148 [.r,.l,.r,.l] m (impl_placesOk_Q0 x0 x1 x2 x3 x4 x5) K) (fun v0_0 v0_1 v0_2=>K (Ex.ret) (impl_placesOk_Q0_0 v0_0 v0_1 v0_2)) (fun v1_0 v1_1=>K (Ex.exit 0) (impl_placesOk_Q0_1 v1_0 v1_1)) x0 x1 x2 x3 x4 x5:=by kernel_rfl
theorem impl_placesOk_EL0 (D:DX)(n:Nat) (K:Ex→St→Option (Out ctx 148)):∀ (m:Nat) (x0:List Int) (x1:Int) (x2:List Int) (x3:Int) (x4:Int) (x5:tSch),LQ funcTab D n 148 [.r,.l,.r,.l] m (impl_placesOk_Q0 x0 x1 x2 x3 x4 x5) K=impl_placesOk_L0 D n (fun v0_0 v0_1 v0_2=>K (Ex.ret) (impl_placesOk_Q0_0 v0_0 v0_1 v0_2)) (fun v1_0 v1_1=>K (Ex.exit 0) (impl_placesOk_Q0_1 v1_0 v1_1)) m x0 x1 x2 x3 x4 x5
  | 0,x0,x1,x2,x3,x4,x5=>LQ_zero ..
  | m+1,x0,x1,x2,x3,x4,x5=>by
    have ih:(fun x0 x1 x2 x3 x4 x5=>LQ funcTab D n 148 [.r,.l,.r,.l] m (impl_placesOk_Q0 x0 x1 x2 x3 x4 x5) K)=impl_placesOk_L0 D n (fun v0_0 v0_1 v0_2=>K (Ex.ret) (impl_placesOk_Q0_0 v0_0 v0_1 v0_2)) (fun v1_0 v1_1=>K (Ex.exit 0) (impl_placesOk_Q0_1 v1_0 v1_1)) m:=by funext x0 x1 x2 x3 x4 x5;exact impl_placesOk_EL0 D n K m x0 x1 x2 x3 x4 x5
    rw[impl_placesOk_SB0]
    rw[ih];rfl
theorem impl_placesOk_X0_0 (D:DX)(n:Nat) (v0_0:List Int) (v0_1:Int) (v0_2:Bool) :
  (CQ funcTab D n 148 [] [.r,.l,.r,.l] (lastK funcTab 148)) (Ex.ret) (impl_placesOk_Q0_0 v0_0 v0_1 v0_2)=impl_placesOk_x0_0 D n v0_0 v0_1 v0_2:=by kernel_rfl
theorem impl_placesOk_X0_1 (D:DX)(n:Nat) (v1_0:List Int) (v1_1:Int) :
  (CQ funcTab D n 148 [] [.r,.l,.r,.l] (lastK funcTab 148)) (Ex.exit 0) (impl_placesOk_Q0_1 v1_0 v1_1)=impl_placesOk_x0_1 D n v1_0 v1_1:=by kernel_rfl
theorem impl_placesOk_ELP0 (D:DX)(n:Nat) (x0:List Int) (x1:Int) (x2:List Int) (x3:Int) (x4:Int) (x5:tSch) :
  LQ funcTab D n 148 [.r,.l,.r,.l] n (impl_placesOk_Q0 x0 x1 x2 x3 x4 x5) (CQ funcTab D n 148 [] [.r,.l,.r,.l] (lastK funcTab 148))=impl_placesOk_LP0 D n x0 x1 x2 x3 x4 x5:=by
  rw[impl_placesOk_EL0]
  simp only[impl_placesOk_X0_0,impl_placesOk_X0_1]
  rfl
theorem E_impl_placesOk (D:DX)(n:Nat) (a0:tSch) (a1:List Int) (a2:Int):rfC funcTab D n 148 (a0,(a1,(a2,())))=F_impl_placesOk D n a0 a1 a2:=by
  have h:rfC funcTab D n 148 (a0,(a1,(a2,())))=impl_placesOk_e D n (fun x0 x1 x2 x3 x4 x5=>LQ funcTab D n 148 [.r,.l,.r,.l] n (impl_placesOk_Q0 x0 x1 x2 x3 x4 x5) (CQ funcTab D n 148 [] [.r,.l,.r,.l] (lastK funcTab 148))) a0 a1 a2:=by kernel_rfl
  rw[h]
  simp only[impl_placesOk_ELP0]
  rfl

def impl_SchemaOk_1_e (D:DX)(n:Nat) (a0:ByteArray×List Int×Bool×Unit) (a1:ByteArray×List Int×Bool×Unit):Option ((Bool×Unit)×Unit):=some ((List.beq (ByteArray.toList (Prod.fst a0)) (ByteArray.toList (Prod.fst a1)),()),())
def F_impl_SchemaOk_1 (D:DX)(n:Nat) (a0:ByteArray×List Int×Bool×Unit) (a1:ByteArray×List Int×Bool×Unit):Option ((Bool×Unit)×Unit):=impl_SchemaOk_1_e D n a0 a1
theorem E_impl_SchemaOk_1 (D:DX)(n:Nat) (a0:ByteArray×List Int×Bool×Unit) (a1:ByteArray×List Int×Bool×Unit):rfC funcTab D n 149 (a0,(a1,()))=F_impl_SchemaOk_1 D n a0 a1:=by kernel_rfl

def slices_ContainsFunc_int_int_e (D:DX)(n:Nat) (a1:Clo) (a0:List Int):Option ((Bool×Unit)×Unit):=bindD (C_slices_IndexFunc_int_int D a0 a1) fun b↦some ((decide (Prod.fst (Prod.fst b)≥0),()),())
def F_slices_ContainsFunc_int_int (D:DX)(n:Nat) (a0:List Int) (a1:Clo):Option ((Bool×Unit)×Unit):=slices_ContainsFunc_int_int_e D n a1 a0
theorem E_slices_ContainsFunc_int_int (D:DX)(n:Nat) (a0:List Int) (a1:Clo):rfC funcTab D n 150 (a0,(a1,()))=F_slices_ContainsFunc_int_int D n a0 a1:=by kernel_rfl

def impl_SchemaOk_2_e (D:DX)(n:Nat) (a0:Int) (a1:tSch):Option ((Bool×Unit)×Unit):=br (decide (0≤a0)&&decide (a0<(↑(List.length (Prod.fst a1)):Int))) (some ((Prod.fst (Prod.snd (Prod.snd (List.getD (Prod.fst a1) (Int.toNat a0) (ByteArray.empty,0,false,())))),()),())) none
def F_impl_SchemaOk_2 (D:DX)(n:Nat) (a0:Int) (a1:tSch):Option ((Bool×Unit)×Unit):=impl_SchemaOk_2_e D n a0 a1
theorem E_impl_SchemaOk_2 (D:DX)(n:Nat) (a0:Int) (a1:tSch):rfC funcTab D n 151 (a0,(a1,()))=F_impl_SchemaOk_2 D n a0 a1:=by kernel_rfl

def impl_copyTuples_b0 (D:DX)(n:Nat) (go:tRows→Int→Int→tRows→Option ((tRows×Unit)×Unit)) (K0:tRows→Option ((tRows×Unit)×Unit)) (x0:tRows) (x1:Int) (x2:Int) (x3:tRows):Option ((tRows×Unit)×Unit):=br (decide (x2<x1)) (br (decide (0≤x2)&&decide (x2<(↑(List.length x0):Int))) (bindD (C_slices_Clone_impl_Value_impl_Value D (List.getD x0 (Int.toNat x2) [])) fun b↦br (decide (List.length x3+1≤bound)) (go x0 x1 (IntKind.wrap IntKind.i64 (x2+1)) (x3++[Prod.fst (Prod.fst b)])) none) none) (K0 x3)
def impl_copyTuples_L0 (D:DX)(n:Nat) (K0:tRows→Option ((tRows×Unit)×Unit)):Nat→(tRows)→(Int)→(Int)→(tRows)→Option ((tRows×Unit)×Unit) | 0=>(fun x0 x1 x2 x3=>none) | m+1=>(fun x0 x1 x2 x3=>impl_copyTuples_b0 D n (impl_copyTuples_L0 D n K0 m) K0 x0 x1 x2 x3)
def impl_copyTuples_x0_0 (D:DX)(n:Nat) (v0_0:tRows):Option ((tRows×Unit)×Unit):=some ((v0_0,()),())
def impl_copyTuples_LP0 (D:DX)(n:Nat):(tRows)→(Int)→(Int)→(tRows)→Option ((tRows×Unit)×Unit):=(fun x0 x1 x2 x3=>impl_copyTuples_L0 D n (fun v0_0=>impl_copyTuples_x0_0 D n v0_0) n x0 x1 x2 x3)
def impl_copyTuples_e (D:DX)(n:Nat) (lp0:tRows→Int→Int→tRows→Option ((tRows×Unit)×Unit)) (a0:tRows):Option ((tRows×Unit)×Unit):=lp0 a0 (↑(List.length a0):Int) 0 []
def F_impl_copyTuples (D:DX)(n:Nat) (a0:tRows):Option ((tRows×Unit)×Unit):=impl_copyTuples_e D n (impl_copyTuples_LP0 D n) a0
def impl_copyTuples_Q0 (x0:tRows) (x1:Int) (x2:Int) (x3:tRows):St:=stq 20 [(3,AV.brw 3 [] 0),(7,AV.val (Ty.sl (Ty.sl yV)) x0),(8,avI x1),(9,avI x2)] [(3,Root.mk (Ty.sl (Ty.sl yV)) (Mk.own 0 (Mk.own 0 (Mk.pr Mk.no (Mk.pr Mk.no (Mk.pr Mk.no Mk.no))))) x3 false)] 
def impl_copyTuples_Q0_0 (v0_0:tRows):St:=stq 20 [(3,AV.brw 3 [] 0)] [(3,Root.mk (Ty.sl (Ty.sl yV)) (Mk.own 0 (Mk.own 0 (Mk.pr Mk.no (Mk.pr Mk.no (Mk.pr Mk.no Mk.no))))) v0_0 false)] 
theorem impl_copyTuples_SB0 (D:DX)(n:Nat) (m:Nat) (K:Ex→St→Option (Out ctx 152)) (x0:tRows) (x1:Int) (x2:Int) (x3:tRows) :
  LQ funcTab D n 152 [.r,.r,.l,.r,.l] (m+1) (impl_copyTuples_Q0 x0 x1 x2 x3) K=impl_copyTuples_b0 D n (fun x0 x1 x2 x3=>LQ funcTab D n 152 [.r,.r,.l,.r,.l] m (impl_copyTuples_Q0 x0 x1 x2 x3) K) (fun v0_0=>K (Ex.exit 0) (impl_copyTuples_Q0_0 v0_0)) x0 x1 x2 x3:=by kernel_rfl
theorem impl_copyTuples_EL0 (D:DX)(n:Nat) (K:Ex→St→Option (Out ctx 152)):∀ (m:Nat) (x0:tRows) (x1:Int) (x2:Int) (x3:tRows),LQ funcTab D n 152 [.r,.r,.l,.r,.l] m (impl_copyTuples_Q0 x0 x1 x2 x3) K=impl_copyTuples_L0 D n (fun v0_0=>K (Ex.exit 0) (impl_copyTuples_Q0_0 v0_0)) m x0 x1 x2 x3
  | 0,x0,x1,x2,x3=>LQ_zero ..
  | m+1,x0,x1,x2,x3=>by
    have ih:(fun x0 x1 x2 x3=>LQ funcTab D n 152 [.r,.r,.l,.r,.l] m (impl_copyTuples_Q0 x0 x1 x2 x3) K)=impl_copyTuples_L0 D n (fun v0_0=>K (Ex.exit 0) (impl_copyTuples_Q0_0 v0_0)) m:=by funext x0 x1 x2 x3;exact impl_copyTuples_EL0 D n K m x0 x1 x2 x3
    rw[impl_copyTuples_SB0]
    rw[ih];rfl
theorem impl_copyTuples_X0_0 (D:DX)(n:Nat) (v0_0:tRows) :
  (CQ funcTab D n 152 [] [.r,.r,.l,.r,.l] (lastK funcTab 152)) (Ex.exit 0) (impl_copyTuples_Q0_0 v0_0)=impl_copyTuples_x0_0 D n v0_0:=by kernel_rfl
theorem impl_copyTuples_ELP0 (D:DX)(n:Nat) (x0:tRows) (x1:Int) (x2:Int) (x3:tRows) :
  LQ funcTab D n 152 [.r,.r,.l,.r,.l] n (impl_copyTuples_Q0 x0 x1 x2 x3) (CQ funcTab D n 152 [] [.r,.r,.l,.r,.l] (lastK funcTab 152))=impl_copyTuples_LP0 D n x0 x1 x2 x3:=by
  rw[impl_copyTuples_EL0]
  simp only[impl_copyTuples_X0_0]
  rfl
theorem E_impl_copyTuples (D:DX)(n:Nat) (a0:tRows):rfC funcTab D n 152 (a0,())=F_impl_copyTuples D n a0:=by
  have h:rfC funcTab D n 152 (a0,())=impl_copyTuples_e D n (fun x0 x1 x2 x3=>LQ funcTab D n 152 [.r,.r,.l,.r,.l] n (impl_copyTuples_Q0 x0 x1 x2 x3) (CQ funcTab D n 152 [] [.r,.r,.l,.r,.l] (lastK funcTab 152))) a0:=by kernel_rfl
  rw[h]
  simp only[impl_copyTuples_ELP0]
  rfl

def impl_keyAt_1_e (D:DX)(n:Nat) (a0:tVals) (a1:(tSch)×tRows×Unit) (a2:tVals):Option ((Bool×Unit)×Unit):=bindD (C_impl_KeyOfRow D (Prod.fst a1) a0) fun b↦bindD (C_slices_Equal_impl_Value_impl_Value D (Prod.fst (Prod.fst b)) a2) fun b↦some ((Prod.fst (Prod.fst b),()),())
def F_impl_keyAt_1 (D:DX)(n:Nat) (a0:tVals) (a1:(tSch)×tRows×Unit) (a2:tVals):Option ((Bool×Unit)×Unit):=impl_keyAt_1_e D n a0 a1 a2
theorem E_impl_keyAt_1 (D:DX)(n:Nat) (a0:tVals) (a1:(tSch)×
  tRows×Unit) (a2:tVals):rfC funcTab D n 153 (a0,(a1,(a2,())))=F_impl_keyAt_1 D n a0 a1 a2:=by kernel_rfl

def spec_ValueOk_e (D:DX)(n:Nat) (a0:Int×Int×ByteArray×Unit):Option ((Bool×Unit)×Unit):=br (decide (Prod.fst a0=0)) (some ((bif decide (Prod.fst (Prod.snd a0)=0) then List.beq (ByteArray.toList (Prod.fst (Prod.snd (Prod.snd a0)))) (ByteArray.toList (ByteArray.mk #[])) else false,()),())) (br (decide (Prod.fst a0=1)) (bindD (C_spec_l1In D (Prod.fst (Prod.snd a0)) 0 1) fun b↦some ((bif Prod.fst (Prod.fst b) then List.beq (ByteArray.toList (Prod.fst (Prod.snd (Prod.snd a0)))) (ByteArray.toList (ByteArray.mk #[])) else false,()),())) (br (decide (Prod.fst a0=2)) (bindD (C_spec_l1In D (Prod.fst (Prod.snd a0)) (-1000000000000) 1000000000000) fun b↦some ((bif Prod.fst (Prod.fst b) then List.beq (ByteArray.toList (Prod.fst (Prod.snd (Prod.snd a0)))) (ByteArray.toList (ByteArray.mk #[])) else false,()),())) (br (decide (Prod.fst a0=3)) (some ((bif decide (Prod.fst (Prod.snd a0)=0) then decide ((↑(ByteArray.size (Prod.fst (Prod.snd (Prod.snd a0)))):Int)≤20) else false,()),())) (some ((false,()),())))))
def F_spec_ValueOk (D:DX)(n:Nat) (a0:Int×Int×ByteArray×Unit):Option ((Bool×Unit)×Unit):=spec_ValueOk_e D n a0
theorem E_spec_ValueOk (D:DX)(n:Nat) (a0:Int×Int×ByteArray×Unit):rfC funcTab D n 158 (a0,())=F_spec_ValueOk D n a0:=by kernel_rfl

def spec_l18Same_b0 (D:DX)(n:Nat) (go:tVals→tVals→Int→Option ((Bool×Unit)×Unit)) (K0:tVals→tVals→Bool→Option ((Bool×Unit)×Unit)) (K1:tVals→tVals→Option ((Bool×Unit)×Unit)) (x0:tVals) (x1:tVals) (x2:Int):Option ((Bool×Unit)×Unit):=br (bif decide (x2<(↑(List.length x0):Int)) then decide (x2<(↑(List.length x1):Int)) else false) (br (decide (0≤x2)&&decide (x2<(↑(List.length x0):Int))) (br (decide (0≤x2)&&decide (x2<(↑(List.length x1):Int))) (bindD (C_spec_ValueSame D (List.getD x0 (Int.toNat x2) (0,0,ByteArray.empty,())) (List.getD x1 (Int.toNat x2) (0,0,ByteArray.empty,()))) fun b↦br (!Prod.fst (Prod.fst b)) (K0 x0 x1 false) (go x0 x1 (IntKind.wrap IntKind.i64 (x2+1)))) none) none) (K1 x0 x1)
def spec_l18Same_L0 (D:DX)(n:Nat) (K0:tVals→tVals→Bool→Option ((Bool×Unit)×Unit)) (K1:tVals→tVals→Option ((Bool×Unit)×Unit)):Nat→(tVals)→(tVals)→(Int)→Option ((Bool×Unit)×Unit) | 0=>(fun x0 x1 x2=>none) | m+1=>(fun x0 x1 x2=>spec_l18Same_b0 D n (spec_l18Same_L0 D n K0 K1 m) K0 K1 x0 x1 x2)
def spec_l18Same_x0_0 (D:DX)(n:Nat) (v0_0:tVals) (v0_1:tVals) (v0_2:Bool):Option ((Bool×Unit)×Unit):=some ((v0_2,()),())
def spec_l18Same_x0_1 (D:DX)(n:Nat) (v1_0:tVals) (v1_1:tVals):Option ((Bool×Unit)×Unit):=some ((decide ((↑(List.length v1_0):Int)=(↑(List.length v1_1):Int)),()),())
def spec_l18Same_LP0 (D:DX)(n:Nat):(tVals)→(tVals)→(Int)→Option ((Bool×Unit)×Unit):=(fun x0 x1 x2=>spec_l18Same_L0 D n (fun v0_0 v0_1 v0_2=>spec_l18Same_x0_0 D n v0_0 v0_1 v0_2) (fun v1_0 v1_1=>spec_l18Same_x0_1 D n v1_0 v1_1) n x0 x1 x2)
def spec_l18Same_e (D:DX)(n:Nat) (lp0:tVals→tVals→Int→Option ((Bool×Unit)×Unit)) (a0:tVals) (a1:tVals):Option ((Bool×Unit)×Unit):=lp0 a0 a1 0
def F_spec_l18Same (D:DX)(n:Nat) (a0:tVals) (a1:tVals):Option ((Bool×Unit)×Unit):=spec_l18Same_e D n (spec_l18Same_LP0 D n) a0 a1
def spec_l18Same_Q0 (x0:tVals) (x1:tVals) (x2:Int):St:=stq 33 [(0,AV.val (Ty.sl yV) x0),(1,AV.val (Ty.sl yV) x1),(5,avI x2)] [] 
def spec_l18Same_Q0_0 (v0_0:tVals) (v0_1:tVals) (v0_2:Bool):St:=stq 33 [(0,AV.val (Ty.sl yV) v0_0),(1,AV.val (Ty.sl yV) v0_1),(4,AV.val Ty.bool v0_2)] [] 
def spec_l18Same_Q0_1 (v1_0:tVals) (v1_1:tVals):St:=stq 33 [(0,AV.val (Ty.sl yV) v1_0),(1,AV.val (Ty.sl yV) v1_1)] [] 
theorem spec_l18Same_SB0 (D:DX)(n:Nat) (m:Nat) (K:Ex→St→Option (Out ctx 159)) (x0:tVals) (x1:tVals) (x2:Int) :
  LQ funcTab D n 159 [.r,.l,.r,.l] (m+1) (spec_l18Same_Q0 x0 x1 x2) K=spec_l18Same_b0 D n (fun x0 x1 x2=>LQ funcTab D n 159 [.r,.l,.r,.l] m (spec_l18Same_Q0 x0 x1 x2) K) (fun v0_0 v0_1 v0_2=>K (Ex.ret) (spec_l18Same_Q0_0 v0_0 v0_1 v0_2)) (fun v1_0 v1_1=>K (Ex.exit 0) (spec_l18Same_Q0_1 v1_0 v1_1)) x0 x1 x2:=by kernel_rfl
theorem spec_l18Same_EL0 (D:DX)(n:Nat) (K:Ex→St→Option (Out ctx 159)):∀ (m:Nat) (x0:tVals) (x1:tVals) (x2:Int),LQ funcTab D n 159 [.r,.l,.r,.l] m (spec_l18Same_Q0 x0 x1 x2) K=spec_l18Same_L0 D n (fun v0_0 v0_1 v0_2=>K (Ex.ret) (spec_l18Same_Q0_0 v0_0 v0_1 v0_2)) (fun v1_0 v1_1=>K (Ex.exit 0) (spec_l18Same_Q0_1 v1_0 v1_1)) m x0 x1 x2
  | 0,x0,x1,x2=>LQ_zero ..
  | m+1,x0,x1,x2=>by
    have ih:(fun x0 x1 x2=>LQ funcTab D n 159 [.r,.l,.r,.l] m (spec_l18Same_Q0 x0 x1 x2) K)=spec_l18Same_L0 D n (fun v0_0 v0_1 v0_2=>K (Ex.ret) (spec_l18Same_Q0_0 v0_0 v0_1 v0_2)) (fun v1_0 v1_1=>K (Ex.exit 0) (spec_l18Same_Q0_1 v1_0 v1_1)) m:=by funext x0 x1 x2;exact spec_l18Same_EL0 D n K m x0 x1 x2
    rw[spec_l18Same_SB0]
    rw[ih];rfl
theorem spec_l18Same_X0_0 (D:DX)(n:Nat) (v0_0:tVals) (v0_1:tVals) (v0_2:Bool) :
  (CQ funcTab D n 159 [] [.r,.l,.r,.l] (lastK funcTab 159)) (Ex.ret) (spec_l18Same_Q0_0 v0_0 v0_1 v0_2)=spec_l18Same_x0_0 D n v0_0 v0_1 v0_2:=by kernel_rfl
theorem spec_l18Same_X0_1 (D:DX)(n:Nat) (v1_0:tVals) (v1_1:tVals) :
  (CQ funcTab D n 159 [] [.r,.l,.r,.l] (lastK funcTab 159)) (Ex.exit 0) (spec_l18Same_Q0_1 v1_0 v1_1)=spec_l18Same_x0_1 D n v1_0 v1_1:=by kernel_rfl
theorem spec_l18Same_ELP0 (D:DX)(n:Nat) (x0:tVals) (x1:tVals) (x2:Int) :
  LQ funcTab D n 159 [.r,.l,.r,.l] n (spec_l18Same_Q0 x0 x1 x2) (CQ funcTab D n 159 [] [.r,.l,.r,.l] (lastK funcTab 159))=spec_l18Same_LP0 D n x0 x1 x2:=by
  rw[spec_l18Same_EL0]
  simp only[spec_l18Same_X0_0,spec_l18Same_X0_1]
  rfl
theorem E_spec_l18Same (D:DX)(n:Nat) (a0:tVals) (a1:tVals):rfC funcTab D n 159 (a0,(a1,()))=F_spec_l18Same D n a0 a1:=by
  have h:rfC funcTab D n 159 (a0,(a1,()))=spec_l18Same_e D n (fun x0 x1 x2=>LQ funcTab D n 159 [.r,.l,.r,.l] n (spec_l18Same_Q0 x0 x1 x2) (CQ funcTab D n 159 [] [.r,.l,.r,.l] (lastK funcTab 159))) a0 a1:=by kernel_rfl
  rw[h]
  simp only[spec_l18Same_ELP0]
  rfl

def spec_ValueSame_e (D:DX)(n:Nat) (a0:Int×Int×ByteArray×Unit) (a1:Int×Int×ByteArray×Unit):Option ((Bool×Unit)×Unit):=some ((eqDen (Ty.pair (Ty.int IntKind.i64) (Ty.pair (Ty.int IntKind.i64) (Ty.pair Ty.str Ty.unit))) a0 a1,()),())
def F_spec_ValueSame (D:DX)(n:Nat) (a0:Int×Int×ByteArray×Unit) (a1:Int×Int×ByteArray×Unit):Option ((Bool×Unit)×Unit):=spec_ValueSame_e D n a0 a1
theorem E_spec_ValueSame (D:DX)(n:Nat) (a0:Int×Int×ByteArray×Unit) (a1:Int×Int×ByteArray×Unit):rfC funcTab D n 160 (a0,(a1,()))=F_spec_ValueSame D n a0 a1:=by kernel_rfl

def spec_ValueLess_e (D:DX)(n:Nat) (a0:Int×Int×ByteArray×Unit) (a1:Int×Int×ByteArray×Unit):Option ((Bool×Unit)×Unit):=br (Prod.fst a0 != Prod.fst a1) (some ((decide (Prod.fst a0<Prod.fst a1),()),())) (br (Prod.fst (Prod.snd a0) != Prod.fst (Prod.snd a1)) (some ((decide (Prod.fst (Prod.snd a0)<Prod.fst (Prod.snd a1)),()),())) (some ((Op.bytesLess (ByteArray.toList (Prod.fst (Prod.snd (Prod.snd a0)))) (ByteArray.toList (Prod.fst (Prod.snd (Prod.snd a1)))),()),())))
def F_spec_ValueLess (D:DX)(n:Nat) (a0:Int×Int×ByteArray×Unit) (a1:Int×Int×ByteArray×Unit):Option ((Bool×Unit)×Unit):=spec_ValueLess_e D n a0 a1
theorem E_spec_ValueLess (D:DX)(n:Nat) (a0:Int×Int×ByteArray×Unit) (a1:Int×Int×ByteArray×Unit):rfC funcTab D n 161 (a0,(a1,()))=F_spec_ValueLess D n a0 a1:=by kernel_rfl

def slices_Clone_impl_Col_impl_Col_e (D:DX)(n:Nat) (a0:tCols):Option ((tCols×Unit)×Unit):=br (decide (Int.toNat (↑(List.length a0):Int)=0)) (both (some (([],()),())) (br (decide (0+List.length a0≤bound)) (some (([]++a0,()),())) none)) (br (decide (0+List.length a0≤bound)) (some (([]++a0,()),())) none)
def F_slices_Clone_impl_Col_impl_Col (D:DX)(n:Nat) (a0:tCols):Option ((tCols×Unit)×Unit):=slices_Clone_impl_Col_impl_Col_e D n a0
theorem E_slices_Clone_impl_Col_impl_Col (D:DX)(n:Nat) (a0:tCols):rfC funcTab D n 164 (a0,())=F_slices_Clone_impl_Col_impl_Col D n a0:=by kernel_rfl
end
end Go.G


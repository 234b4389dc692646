import Derived.Test.YtfafjngknkbngaaAPFnSchemas0
set_option linter.unusedVariables false
set_option linter.unusedSimpArgs false
set_option linter.unusedSectionVars false
namespace Go.G
set_option maxRecDepth 100000
set_option maxHeartbeats 0
open Go Go.V
noncomputable section
def laws_markIndexS_b0 (D:DX)(n:Nat) (go : Int → Int → tIxs → Option ((Int × Unit) × tIxs × Unit)) (K0 : Int → tIxs → Option ((Int × Unit) × tIxs × Unit)) (x0 : Int) (x1 : Int) (x2 : tIxs) : Option ((Int × Unit) × tIxs × Unit) := br (decide (x1 < (↑(List.length x2) : Int))) (bindD (C_laws_markText D x0) fun b ↦ br (decide (0 ≤ x1) && decide (x1 < (↑(List.length x2) : Int))) (br (decide (0 ≤ x1) && decide (x1 < (↑(List.length (List.set x2 (Int.toNat x1) (Prod.fst (Prod.fst b), Prod.snd (List.getD x2 (Int.toNat x1) (ByteArray.empty, [], false, ()))))) : Int))) (bindD (C_laws_markIntS D (Prod.fst (Prod.snd (List.getD (List.set x2 (Int.toNat x1) (Prod.fst (Prod.fst b), Prod.snd (List.getD x2 (Int.toNat x1) (ByteArray.empty, [], false, ())))) (Int.toNat x1) (ByteArray.empty, [], false, ())))) (IntKind.wrap IntKind.i64 (x0 + 1))) fun b_1 ↦ br (lendsOk [PK.mutv (Ty.sl (Ty.int IntKind.i64)) (Mk.top (Ty.sl (Ty.int IntKind.i64))) (Mk.top (Ty.sl (Ty.int IntKind.i64))), PK.val (Ty.int IntKind.i64)] (List.map (ev (St.mk [AV.brw 0 [] 1048576, AV.val (Ty.int IntKind.i64) (IntKind.wrap IntKind.i64 (x0 + 1)), AV.undef, AV.undef, AV.undef, AV.val (Ty.int IntKind.i64) x1, AV.val (Ty.int IntKind.i64) x1, AV.brw 0 [] 1048576, AV.val (Ty.int IntKind.i64) (↑(List.length x2) : Int), AV.val Ty.bool (decide (x1 < (↑(List.length x2) : Int))), AV.undef, AV.undef, AV.brw 0 [] 1048576, AV.val (Ty.int IntKind.i64) x1, AV.val (Ty.int IntKind.i64) x0, AV.val Ty.str (Prod.fst (Prod.fst b)), AV.addr 0 [Stp.idx (Int.toNat x1) 1048576], AV.addr 0 [Stp.idx (Int.toNat x1) 1048576, Stp.fst], AV.val (Ty.int IntKind.i64) x0, AV.val (Ty.int IntKind.i64) (IntKind.wrap IntKind.i64 (x0 + 1)), AV.brw 0 [] 1048576, AV.val (Ty.int IntKind.i64) x1, AV.addr 0 [Stp.idx (Int.toNat x1) 1048576], AV.addr 0 [Stp.idx (Int.toNat x1) 1048576, Stp.snd, Stp.fst], AV.brw 0 [Stp.idx (Int.toNat x1) 1048576, Stp.snd, Stp.fst] 0, AV.val (Ty.int IntKind.i64) (IntKind.wrap IntKind.i64 (x0 + 1)), AV.undef, AV.undef, AV.undef, AV.undef, AV.undef, AV.undef, AV.undef, AV.undef, AV.undef, AV.undef, AV.undef] [some (Root.mk (Ty.sl (Ty.pair Ty.str (Ty.pair (Ty.sl (Ty.int IntKind.i64)) (Ty.pair Ty.bool Ty.unit)))) (Mk.own 1048576 (Mk.pr Mk.no (Mk.pr (Mk.own 0 Mk.no) (Mk.pr Mk.no Mk.no)))) (List.set x2 (Int.toNat x1) (Prod.fst (Prod.fst b), Prod.snd (List.getD x2 (Int.toNat x1) (ByteArray.empty, [], false, ())))) false), none, none, none, none, none, none, none, none, none, none, none, none, none, none, none, none, none, none, none, none, none, none, none, none, none, none, none, none, none, none, none, none, none, none, none, none])) [Operand.tmp 24, Operand.tmp 25] ++ avList AV.unit)) (br (decide (0 ≤ x1) && decide (x1 < (↑(List.length (List.set (List.set x2 (Int.toNat x1) (Prod.fst (Prod.fst b), Prod.snd (List.getD x2 (Int.toNat x1) (ByteArray.empty, [], false, ())))) (Int.toNat x1) (Prod.fst (List.getD (List.set x2 (Int.toNat x1) (Prod.fst (Prod.fst b), Prod.snd (List.getD x2 (Int.toNat x1) (ByteArray.empty, [], false, ())))) (Int.toNat x1) (ByteArray.empty, [], false, ())), Prod.fst (Prod.snd b_1), Prod.snd (Prod.snd (List.getD (List.set x2 (Int.toNat x1) (Prod.fst (Prod.fst b), Prod.snd (List.getD x2 (Int.toNat x1) (ByteArray.empty, [], false, ())))) (Int.toNat x1) (ByteArray.empty, [], false, ())))))) : Int))) (go (IntKind.wrap IntKind.i64 (Prod.fst (Prod.fst b_1) + 1)) (IntKind.wrap IntKind.i64 (x1 + 1)) (List.set (List.set (List.set x2 (Int.toNat x1) (Prod.fst (Prod.fst b), Prod.snd (List.getD x2 (Int.toNat x1) (ByteArray.empty, [], false, ())))) (Int.toNat x1) (Prod.fst (List.getD (List.set x2 (Int.toNat x1) (Prod.fst (Prod.fst b), Prod.snd (List.getD x2 (Int.toNat x1) (ByteArray.empty, [], false, ())))) (Int.toNat x1) (ByteArray.empty, [], false, ())), Prod.fst (Prod.snd b_1), Prod.snd (Prod.snd (List.getD (List.set x2 (Int.toNat x1) (Prod.fst (Prod.fst b), Prod.snd (List.getD x2 (Int.toNat x1) (ByteArray.empty, [], false, ())))) (Int.toNat x1) (ByteArray.empty, [], false, ()))))) (Int.toNat x1) (Prod.fst (List.getD (List.set (List.set x2 (Int.toNat x1) (Prod.fst (Prod.fst b), Prod.snd (List.getD x2 (Int.toNat x1) (ByteArray.empty, [], false, ())))) (Int.toNat x1) (Prod.fst (List.getD (List.set x2 (Int.toNat x1) (Prod.fst (Prod.fst b), Prod.snd (List.getD x2 (Int.toNat x1) (ByteArray.empty, [], false, ())))) (Int.toNat x1) (ByteArray.empty, [], false, ())), Prod.fst (Prod.snd b_1), Prod.snd (Prod.snd (List.getD (List.set x2 (Int.toNat x1) (Prod.fst (Prod.fst b), Prod.snd (List.getD x2 (Int.toNat x1) (ByteArray.empty, [], false, ())))) (Int.toNat x1) (ByteArray.empty, [], false, ()))))) (Int.toNat x1) (ByteArray.empty, [], false, ())), Prod.fst (Prod.snd (List.getD (List.set (List.set x2 (Int.toNat x1) (Prod.fst (Prod.fst b), Prod.snd (List.getD x2 (Int.toNat x1) (ByteArray.empty, [], false, ())))) (Int.toNat x1) (Prod.fst (List.getD (List.set x2 (Int.toNat x1) (Prod.fst (Prod.fst b), Prod.snd (List.getD x2 (Int.toNat x1) (ByteArray.empty, [], false, ())))) (Int.toNat x1) (ByteArray.empty, [], false, ())), Prod.fst (Prod.snd b_1), Prod.snd (Prod.snd (List.getD (List.set x2 (Int.toNat x1) (Prod.fst (Prod.fst b), Prod.snd (List.getD x2 (Int.toNat x1) (ByteArray.empty, [], false, ())))) (Int.toNat x1) (ByteArray.empty, [], false, ()))))) (Int.toNat x1) (ByteArray.empty, [], false, ()))), decide (Int.tmod (Prod.fst (Prod.fst b_1)) 3 = 0), Prod.snd (Prod.snd (Prod.snd (List.getD (List.set (List.set x2 (Int.toNat x1) (Prod.fst (Prod.fst b), Prod.snd (List.getD x2 (Int.toNat x1) (ByteArray.empty, [], false, ())))) (Int.toNat x1) (Prod.fst (List.getD (List.set x2 (Int.toNat x1) (Prod.fst (Prod.fst b), Prod.snd (List.getD x2 (Int.toNat x1) (ByteArray.empty, [], false, ())))) (Int.toNat x1) (ByteArray.empty, [], false, ())), Prod.fst (Prod.snd b_1), Prod.snd (Prod.snd (List.getD (List.set x2 (Int.toNat x1) (Prod.fst (Prod.fst b), Prod.snd (List.getD x2 (Int.toNat x1) (ByteArray.empty, [], false, ())))) (Int.toNat x1) (ByteArray.empty, [], false, ()))))) (Int.toNat x1) (ByteArray.empty, [], false, ()))))))) none) none) none) none) (K0 x0 x2)
def laws_markIndexS_L0 (D:DX)(n:Nat) (K0 : Int → tIxs → Option ((Int × Unit) × tIxs × Unit)) : Nat → (Int) → (Int) → (tIxs) → Option ((Int × Unit) × tIxs × Unit) | 0 => (fun x0 x1 x2 => none) | m + 1 => (fun x0 x1 x2 => laws_markIndexS_b0 D n (laws_markIndexS_L0 D n K0 m) K0 x0 x1 x2)
def laws_markIndexS_x0_0 (D:DX)(n:Nat) (v0_0 : Int) (v0_1 : tIxs) : Option ((Int × Unit) × tIxs × Unit) := some ((v0_0, ()), v0_1, ())
def laws_markIndexS_LP0 (D:DX)(n:Nat) : (Int) → (Int) → (tIxs) → Option ((Int × Unit) × tIxs × Unit) := (fun x0 x1 x2 => laws_markIndexS_L0 D n (fun v0_0 v0_1 => laws_markIndexS_x0_0 D n v0_0 v0_1) n x0 x1 x2)
def laws_markIndexS_e (D:DX)(n:Nat) (lp0 : Int → Int → tIxs → Option ((Int × Unit) × tIxs × Unit)) (a0 : tIxs) (a1 : Int) : Option ((Int × Unit) × tIxs × Unit) := lp0 a1 0 a0
def F_laws_markIndexS (D:DX)(n:Nat) (a0 : tIxs) (a1 : Int) : Option ((Int × Unit) × tIxs × Unit) := laws_markIndexS_e D n (laws_markIndexS_LP0 D n) a0 a1
def laws_markIndexS_Q0 (x0 : Int) (x1 : Int) (x2 : tIxs) : St := stq 37 [(0, AV.brw 0 [] 1048576), (1, avI x0), (5, avI x1)] [(0, Root.mk (Ty.sl yX) (Mk.own 1048576 (Mk.pr Mk.no (Mk.pr (Mk.own 0 Mk.no) (Mk.pr Mk.no Mk.no)))) x2 false)] 
def laws_markIndexS_Q0_0 (v0_0 : Int) (v0_1 : tIxs) : St := stq 37 [(0, AV.brw 0 [] 1048576), (1, avI v0_0)] [(0, Root.mk (Ty.sl yX) (Mk.own 1048576 (Mk.pr Mk.no (Mk.pr (Mk.own 0 Mk.no) (Mk.pr Mk.no Mk.no)))) v0_1 false)] 
theorem laws_markIndexS_SB0 (D:DX)(n:Nat) (m : Nat) (K : Ex → St → Option (Out ctx 106)) (x0 : Int) (x1 : Int) (x2 : tIxs) :
  LQ funcTab D n 106 [.r, .l, .r, .l] (m + 1) (laws_markIndexS_Q0 x0 x1 x2) K = laws_markIndexS_b0 D n (fun x0 x1 x2 => LQ funcTab D n 106 [.r, .l, .r, .l] m (laws_markIndexS_Q0 x0 x1 x2) K) (fun v0_0 v0_1 => K (Ex.exit 0) (laws_markIndexS_Q0_0 v0_0 v0_1)) x0 x1 x2 := by kernel_rfl
theorem laws_markIndexS_EL0 (D:DX)(n:Nat) (K : Ex → St → Option (Out ctx 106)) : ∀ (m : Nat) (x0 : Int) (x1 : Int) (x2 : tIxs), LQ funcTab D n 106 [.r, .l, .r, .l] m (laws_markIndexS_Q0 x0 x1 x2) K = laws_markIndexS_L0 D n (fun v0_0 v0_1 => K (Ex.exit 0) (laws_markIndexS_Q0_0 v0_0 v0_1)) m x0 x1 x2
  | 0, x0, x1, x2 => LQ_zero ..
  | m + 1, x0, x1, x2 => by
    have ih : (fun x0 x1 x2 => LQ funcTab D n 106 [.r, .l, .r, .l] m (laws_markIndexS_Q0 x0 x1 x2) K) = laws_markIndexS_L0 D n (fun v0_0 v0_1 => K (Ex.exit 0) (laws_markIndexS_Q0_0 v0_0 v0_1)) m := by funext x0 x1 x2; exact laws_markIndexS_EL0 D n K m x0 x1 x2
    rw [laws_markIndexS_SB0]
    rw [ih]; rfl
theorem laws_markIndexS_X0_0 (D:DX)(n:Nat) (v0_0 : Int) (v0_1 : tIxs) :
  (CQ funcTab D n 106 [] [.r, .l, .r, .l] (lastK funcTab 106)) (Ex.exit 0) (laws_markIndexS_Q0_0 v0_0 v0_1) = laws_markIndexS_x0_0 D n v0_0 v0_1 := by kernel_rfl
theorem laws_markIndexS_ELP0 (D:DX)(n:Nat) (x0 : Int) (x1 : Int) (x2 : tIxs) :
  LQ funcTab D n 106 [.r, .l, .r, .l] n (laws_markIndexS_Q0 x0 x1 x2) (CQ funcTab D n 106 [] [.r, .l, .r, .l] (lastK funcTab 106)) = laws_markIndexS_LP0 D n x0 x1 x2 := by
  rw [laws_markIndexS_EL0]
  simp only [laws_markIndexS_X0_0]
  rfl
theorem E_laws_markIndexS (D:DX)(n:Nat) (a0 : tIxs) (a1 : Int) : rfC funcTab D n 106 (a0, (a1, ())) = F_laws_markIndexS D n a0 a1 := by
  have h : rfC funcTab D n 106 (a0, (a1, ())) = laws_markIndexS_e D n (fun x0 x1 x2 => LQ funcTab D n 106 [.r, .l, .r, .l] n (laws_markIndexS_Q0 x0 x1 x2) (CQ funcTab D n 106 [] [.r, .l, .r, .l] (lastK funcTab 106))) a0 a1 := by kernel_rfl
  rw [h]
  simp only [laws_markIndexS_ELP0]
  rfl

def laws_markText_b0 (D:DX)(n:Nat) (go : Int → ByteArray → Option ((ByteArray × Unit) × Unit)) (K0 : ByteArray → Option ((ByteArray × Unit) × Unit)) (x0 : Int) (x1 : ByteArray) : Option ((ByteArray × Unit) × Unit) := br (decide (x0 > 0)) (br (decide (ByteArray.size (ByteArray.mk (List.toArray (List.map (fun n ↦ UInt8.ofNat (Int.toNat n)) [IntKind.wrap IntKind.u8 (IntKind.wrap IntKind.i64 (48 + Int.tmod x0 10))]))) + ByteArray.size x1 ≤ Nat.pow 2 47)) (go (IntKind.wrap IntKind.i64 (Int.tdiv x0 10)) (ByteArray.append (ByteArray.mk (List.toArray (List.map (fun n ↦ UInt8.ofNat (Int.toNat n)) [IntKind.wrap IntKind.u8 (IntKind.wrap IntKind.i64 (48 + Int.tmod x0 10))]))) x1)) none) (K0 x1)
def laws_markText_L0 (D:DX)(n:Nat) (K0 : ByteArray → Option ((ByteArray × Unit) × Unit)) : Nat → (Int) → (ByteArray) → Option ((ByteArray × Unit) × Unit) | 0 => (fun x0 x1 => none) | m + 1 => (fun x0 x1 => laws_markText_b0 D n (laws_markText_L0 D n K0 m) K0 x0 x1)
def laws_markText_x0_0 (D:DX)(n:Nat) (v0_0 : ByteArray) : Option ((ByteArray × Unit) × Unit) := br (decide (ByteArray.size (ByteArray.mk #[UInt8.ofNat 109]) + ByteArray.size v0_0 ≤ Nat.pow 2 47)) (some ((ByteArray.append (ByteArray.mk #[UInt8.ofNat 109]) v0_0, ()), ())) none
def laws_markText_LP0 (D:DX)(n:Nat) : (Int) → (ByteArray) → Option ((ByteArray × Unit) × Unit) := (fun x0 x1 => laws_markText_L0 D n (fun v0_0 => laws_markText_x0_0 D n v0_0) n x0 x1)
def laws_markText_e (D:DX)(n:Nat) (lp0 : Int → ByteArray → Option ((ByteArray × Unit) × Unit)) (a0 : Int) : Option ((ByteArray × Unit) × Unit) := br (decide (a0 ≤ 0)) (some ((ByteArray.mk #[UInt8.ofNat 109, UInt8.ofNat 48], ()), ())) (lp0 a0 (ByteArray.mk #[]))
def F_laws_markText (D:DX)(n:Nat) (a0 : Int) : Option ((ByteArray × Unit) × Unit) := laws_markText_e D n (laws_markText_LP0 D n) a0
def laws_markText_Q0 (x0 : Int) (x1 : ByteArray) : St := stq 20 [(0, avI x0), (3, AV.val Ty.str x1)] [] 
def laws_markText_Q0_0 (v0_0 : ByteArray) : St := stq 20 [(3, AV.val Ty.str v0_0)] [] 
theorem laws_markText_SB0 (D:DX)(n:Nat) (m : Nat) (K : Ex → St → Option (Out ctx 107)) (x0 : Int) (x1 : ByteArray) :
  LQ funcTab D n 107 [.r, .r, .r, .l, .l] (m + 1) (laws_markText_Q0 x0 x1) K = laws_markText_b0 D n (fun x0 x1 => LQ funcTab D n 107 [.r, .r, .r, .l, .l] m (laws_markText_Q0 x0 x1) K) (fun v0_0 => K (Ex.exit 0) (laws_markText_Q0_0 v0_0)) x0 x1 := by kernel_rfl
theorem laws_markText_EL0 (D:DX)(n:Nat) (K : Ex → St → Option (Out ctx 107)) : ∀ (m : Nat) (x0 : Int) (x1 : ByteArray), LQ funcTab D n 107 [.r, .r, .r, .l, .l] m (laws_markText_Q0 x0 x1) K = laws_markText_L0 D n (fun v0_0 => K (Ex.exit 0) (laws_markText_Q0_0 v0_0)) m x0 x1
  | 0, x0, x1 => LQ_zero ..
  | m + 1, x0, x1 => by
    have ih : (fun x0 x1 => LQ funcTab D n 107 [.r, .r, .r, .l, .l] m (laws_markText_Q0 x0 x1) K) = laws_markText_L0 D n (fun v0_0 => K (Ex.exit 0) (laws_markText_Q0_0 v0_0)) m := by funext x0 x1; exact laws_markText_EL0 D n K m x0 x1
    rw [laws_markText_SB0]
    rw [ih]; rfl
theorem laws_markText_X0_0 (D:DX)(n:Nat) (v0_0 : ByteArray) :
  (CQ funcTab D n 107 [] [.r, .r, .r, .l, .l] (lastK funcTab 107)) (Ex.exit 0) (laws_markText_Q0_0 v0_0) = laws_markText_x0_0 D n v0_0 := by kernel_rfl
theorem laws_markText_ELP0 (D:DX)(n:Nat) (x0 : Int) (x1 : ByteArray) :
  LQ funcTab D n 107 [.r, .r, .r, .l, .l] n (laws_markText_Q0 x0 x1) (CQ funcTab D n 107 [] [.r, .r, .r, .l, .l] (lastK funcTab 107)) = laws_markText_LP0 D n x0 x1 := by
  rw [laws_markText_EL0]
  simp only [laws_markText_X0_0]
  rfl
theorem E_laws_markText (D:DX)(n:Nat) (a0 : Int) : rfC funcTab D n 107 (a0, ()) = F_laws_markText D n a0 := by
  have h : rfC funcTab D n 107 (a0, ()) = laws_markText_e D n (fun x0 x1 => LQ funcTab D n 107 [.r, .r, .r, .l, .l] n (laws_markText_Q0 x0 x1) (CQ funcTab D n 107 [] [.r, .r, .r, .l, .l] (lastK funcTab 107))) a0 := by kernel_rfl
  rw [h]
  simp only [laws_markText_ELP0]
  rfl

def slices_ContainsFunc_impl_Value_impl_Valuex_e (D:DX)(n:Nat) (a1 : Clo) (a0 : tRows) : Option ((Bool × Unit) × Unit) := bindD (C_slices_IndexFunc_impl_Value_impl_Value D a0 a1) fun b ↦ some ((decide (Prod.fst (Prod.fst b) ≥ 0), ()), ())
def F_slices_ContainsFunc_impl_Value_impl_Valuex (D:DX)(n:Nat) (a0 : tRows) (a1 : Clo) : Option ((Bool × Unit) × Unit) := slices_ContainsFunc_impl_Value_impl_Valuex_e D n a1 a0
theorem E_slices_ContainsFunc_impl_Value_impl_Valuex (D:DX)(n:Nat) (a0 : tRows) (a1 : Clo) : rfC funcTab D n 116 (a0, (a1, ())) = F_slices_ContainsFunc_impl_Value_impl_Valuex D n a0 a1 := by kernel_rfl

def slices_IndexFunc_impl_Value_impl_Value_b0 (D:DX)(n:Nat) (a1 : Clo) (go : tRows → Int → Int → Option ((Int × Unit) × Unit)) (K0 : Int → Option ((Int × Unit) × Unit)) (K1 : Option ((Int × Unit) × Unit)) (x0 : tRows) (x1 : Int) (x2 : Int) : Option ((Int × Unit) × Unit) := br (decide (x2 < x1)) (br (decide (0 ≤ x2) && decide (x2 < (↑(List.length x0) : Int))) (bindD (applyClo ctx D a1 [CapV.val (Ty.sl (Ty.pair (Ty.int IntKind.i64) (Ty.pair (Ty.int IntKind.i64) (Ty.pair Ty.str Ty.unit)))) (List.getD x0 (Int.toNat x2) [])] Ty.bool) fun b ↦ br b (K0 x2) (go x0 x1 (IntKind.wrap IntKind.i64 (x2 + 1)))) none) K1
def slices_IndexFunc_impl_Value_impl_Value_L0 (D:DX)(n:Nat) (a1 : Clo) (K0 : Int → Option ((Int × Unit) × Unit)) (K1 : Option ((Int × Unit) × Unit)) : Nat → (tRows) → (Int) → (Int) → Option ((Int × Unit) × Unit) | 0 => (fun x0 x1 x2 => none) | m + 1 => (fun x0 x1 x2 => slices_IndexFunc_impl_Value_impl_Value_b0 D n a1 (slices_IndexFunc_impl_Value_impl_Value_L0 D n a1 K0 K1 m) K0 K1 x0 x1 x2)
def slices_IndexFunc_impl_Value_impl_Value_x0_0 (D:DX)(n:Nat) (a1 : Clo) (v0_0 : Int) : Option ((Int × Unit) × Unit) := some ((v0_0, ()), ())
def slices_IndexFunc_impl_Value_impl_Value_x0_1 (D:DX)(n:Nat) (a1 : Clo) : Option ((Int × Unit) × Unit) := some ((-1, ()), ())
def slices_IndexFunc_impl_Value_impl_Value_LP0 (D:DX)(n:Nat) (a1 : Clo) : (tRows) → (Int) → (Int) → Option ((Int × Unit) × Unit) := (fun x0 x1 x2 => slices_IndexFunc_impl_Value_impl_Value_L0 D n a1 (fun v0_0 => slices_IndexFunc_impl_Value_impl_Value_x0_0 D n a1 v0_0) (slices_IndexFunc_impl_Value_impl_Value_x0_1 D n a1) n x0 x1 x2)
def slices_IndexFunc_impl_Value_impl_Value_e (D:DX)(n:Nat) (a1 : Clo) (lp0 : tRows → Int → Int → Option ((Int × Unit) × Unit)) (a0 : tRows) : Option ((Int × Unit) × Unit) := lp0 a0 (↑(List.length a0) : Int) 0
def F_slices_IndexFunc_impl_Value_impl_Value (D:DX)(n:Nat) (a0 : tRows) (a1 : Clo) : Option ((Int × Unit) × Unit) := slices_IndexFunc_impl_Value_impl_Value_e D n a1 (slices_IndexFunc_impl_Value_impl_Value_LP0 D n a1) a0
def slices_IndexFunc_impl_Value_impl_Value_Q0 (a1 : Clo) (x0 : tRows) (x1 : Int) (x2 : Int) : St := stq 19 [(0, AV.val (Ty.sl (Ty.sl yV)) x0), (1, AV.cloV a1), (7, avI x1), (8, avI x2)] [] 
def slices_IndexFunc_impl_Value_impl_Value_Q0_0 (a1 : Clo) (v0_0 : Int) : St := stq 19 [(4, avI v0_0)] [] 
def slices_IndexFunc_impl_Value_impl_Value_Q0_1 (a1 : Clo) : St := stq 19 [] [] 
theorem slices_IndexFunc_impl_Value_impl_Value_SB0 (D:DX)(n:Nat) (a1 : Clo) (m : Nat) (K : Ex → St → Option (Out ctx 130)) (x0 : tRows) (x1 : Int) (x2 : Int) :
  LQ funcTab D n 130 [.r, .l, .r, .l] (m + 1) (slices_IndexFunc_impl_Value_impl_Value_Q0 a1 x0 x1 x2) K = slices_IndexFunc_impl_Value_impl_Value_b0 D n a1 (fun x0 x1 x2 => LQ funcTab D n 130 [.r, .l, .r, .l] m (slices_IndexFunc_impl_Value_impl_Value_Q0 a1 x0 x1 x2) K) (fun v0_0 => K (Ex.ret) (slices_IndexFunc_impl_Value_impl_Value_Q0_0 a1 v0_0)) (K (Ex.exit 0) (slices_IndexFunc_impl_Value_impl_Value_Q0_1 a1)) x0 x1 x2 := by kernel_rfl
theorem slices_IndexFunc_impl_Value_impl_Value_EL0 (D:DX)(n:Nat) (a1 : Clo) (K : Ex → St → Option (Out ctx 130)) : ∀ (m : Nat) (x0 : tRows) (x1 : Int) (x2 : Int), LQ funcTab D n 130 [.r, .l, .r, .l] m (slices_IndexFunc_impl_Value_impl_Value_Q0 a1 x0 x1 x2) K = slices_IndexFunc_impl_Value_impl_Value_L0 D n a1 (fun v0_0 => K (Ex.ret) (slices_IndexFunc_impl_Value_impl_Value_Q0_0 a1 v0_0)) (K (Ex.exit 0) (slices_IndexFunc_impl_Value_impl_Value_Q0_1 a1)) m x0 x1 x2
  | 0, x0, x1, x2 => LQ_zero ..
  | m + 1, x0, x1, x2 => by
    have ih : (fun x0 x1 x2 => LQ funcTab D n 130 [.r, .l, .r, .l] m (slices_IndexFunc_impl_Value_impl_Value_Q0 a1 x0 x1 x2) K) = slices_IndexFunc_impl_Value_impl_Value_L0 D n a1 (fun v0_0 => K (Ex.ret) (slices_IndexFunc_impl_Value_impl_Value_Q0_0 a1 v0_0)) (K (Ex.exit 0) (slices_IndexFunc_impl_Value_impl_Value_Q0_1 a1)) m := by funext x0 x1 x2; exact slices_IndexFunc_impl_Value_impl_Value_EL0 D n a1 K m x0 x1 x2
    rw [slices_IndexFunc_impl_Value_impl_Value_SB0]
    rw [ih]; rfl
theorem slices_IndexFunc_impl_Value_impl_Value_X0_0 (D:DX)(n:Nat) (a1 : Clo) (v0_0 : Int) :
  (CQ funcTab D n 130 [] [.r, .l, .r, .l] (lastK funcTab 130)) (Ex.ret) (slices_IndexFunc_impl_Value_impl_Value_Q0_0 a1 v0_0) = slices_IndexFunc_impl_Value_impl_Value_x0_0 D n a1 v0_0 := by kernel_rfl
theorem slices_IndexFunc_impl_Value_impl_Value_X0_1 (D:DX)(n:Nat) (a1 : Clo) :
  (CQ funcTab D n 130 [] [.r, .l, .r, .l] (lastK funcTab 130)) (Ex.exit 0) (slices_IndexFunc_impl_Value_impl_Value_Q0_1 a1) = slices_IndexFunc_impl_Value_impl_Value_x0_1 D n a1 := by kernel_rfl
theorem slices_IndexFunc_impl_Value_impl_Value_ELP0 (D:DX)(n:Nat) (a1 : Clo) (x0 : tRows) (x1 : Int) (x2 : Int) :
  LQ funcTab D n 130 [.r, .l, .r, .l] n (slices_IndexFunc_impl_Value_impl_Value_Q0 a1 x0 x1 x2) (CQ funcTab D n 130 [] [.r, .l, .r, .l] (lastK funcTab 130)) = slices_IndexFunc_impl_Value_impl_Value_LP0 D n a1 x0 x1 x2 := by
  rw [slices_IndexFunc_impl_Value_impl_Value_EL0]
  simp only [slices_IndexFunc_impl_Value_impl_Value_X0_0, slices_IndexFunc_impl_Value_impl_Value_X0_1]
  rfl
theorem E_slices_IndexFunc_impl_Value_impl_Value (D:DX)(n:Nat) (a0 : tRows) (a1 : Clo) : rfC funcTab D n 130 (a0, (a1, ())) = F_slices_IndexFunc_impl_Value_impl_Value D n a0 a1 := by
  have h : rfC funcTab D n 130 (a0, (a1, ())) = slices_IndexFunc_impl_Value_impl_Value_e D n a1 (fun x0 x1 x2 => LQ funcTab D n 130 [.r, .l, .r, .l] n (slices_IndexFunc_impl_Value_impl_Value_Q0 a1 x0 x1 x2) (CQ funcTab D n 130 [] [.r, .l, .r, .l] (lastK funcTab 130))) a0 := by kernel_rfl
  rw [h]
  simp only [slices_IndexFunc_impl_Value_impl_Value_ELP0]
  rfl

def laws_heldSchema_e (D:DX)(n:Nat) (a0 : tSch) (a1 : Int) : Option ((Int × Unit) × Unit) := bindD (C_laws_heldColS D (Prod.fst a0) a1) fun b ↦ br (decide (Prod.fst (Prod.fst b) < 0)) (some ((-1, ()), ())) (bindD (C_laws_heldIntS D (Prod.fst (Prod.snd a0)) (Prod.fst (Prod.fst b))) fun b ↦ br (decide (Prod.fst (Prod.fst b) < 0)) (some ((-1, ()), ())) (bindD (C_laws_heldIndexS D (Prod.fst (Prod.snd (Prod.snd a0))) (Prod.fst (Prod.fst b))) fun b ↦ br (decide (Prod.fst (Prod.fst b) < 0)) (some ((-1, ()), ())) (some ((Prod.fst (Prod.fst b), ()), ()))))
def F_laws_heldSchema (D:DX)(n:Nat) (a0 : tSch) (a1 : Int) : Option ((Int × Unit) × Unit) := laws_heldSchema_e D n a0 a1
theorem E_laws_heldSchema (D:DX)(n:Nat) (a0 : tSch) (a1 : Int) : rfC funcTab D n 136 (a0, (a1, ())) = F_laws_heldSchema D n a0 a1 := by kernel_rfl

def laws_szCol_e (D:DX)(n:Nat) (a0 : ByteArray × Int × Bool × Unit) (a1 : Int) : Option ((Int × Unit) × Unit) := br (decide (IntKind.wrap IntKind.i64 (a1 - (↑(ByteArray.size (Prod.fst a0)) : Int)) < 0)) (some ((-1, ()), ())) (some ((IntKind.wrap IntKind.i64 (a1 - (↑(ByteArray.size (Prod.fst a0)) : Int)), ()), ()))
def F_laws_szCol (D:DX)(n:Nat) (a0 : ByteArray × Int × Bool × Unit) (a1 : Int) : Option ((Int × Unit) × Unit) := laws_szCol_e D n a0 a1
theorem E_laws_szCol (D:DX)(n:Nat) (a0 : ByteArray × Int × Bool × Unit) (a1 : Int) : rfC funcTab D n 143 (a0, (a1, ())) = F_laws_szCol D n a0 a1 := by kernel_rfl

def laws_szIndex_e (D:DX)(n:Nat) (a0 : ByteArray × List Int × Bool × Unit) (a1 : Int) : Option ((Int × Unit) × Unit) := br (decide (IntKind.wrap IntKind.i64 (a1 - (↑(ByteArray.size (Prod.fst a0)) : Int)) < 0)) (some ((-1, ()), ())) (bindD (C_laws_szIntS D (Prod.fst (Prod.snd a0)) (IntKind.wrap IntKind.i64 (a1 - (↑(ByteArray.size (Prod.fst a0)) : Int)))) fun b ↦ br (decide (Prod.fst (Prod.fst b) < 0)) (some ((-1, ()), ())) (some ((Prod.fst (Prod.fst b), ()), ())))
def F_laws_szIndex (D:DX)(n:Nat) (a0 : ByteArray × List Int × Bool × Unit) (a1 : Int) : Option ((Int × Unit) × Unit) := laws_szIndex_e D n a0 a1
theorem E_laws_szIndex (D:DX)(n:Nat) (a0 : ByteArray × List Int × Bool × Unit) (a1 : Int) : rfC funcTab D n 144 (a0, (a1, ())) = F_laws_szIndex D n a0 a1 := by kernel_rfl

def laws_toCol_e (D:DX)(n:Nat) (a0 : ByteArray × Int × Bool × Unit) : Option ((tCol × Unit) × Unit) := some (((Prod.fst a0, Prod.fst (Prod.snd a0), Prod.fst (Prod.snd (Prod.snd a0)), ()), ()), ())
def F_laws_toCol (D:DX)(n:Nat) (a0 : ByteArray × Int × Bool × Unit) : Option ((tCol × Unit) × Unit) := laws_toCol_e D n a0
theorem E_laws_toCol (D:DX)(n:Nat) (a0 : ByteArray × Int × Bool × Unit) : rfC funcTab D n 145 (a0, ()) = F_laws_toCol D n a0 := by kernel_rfl

def laws_toIndex_e (D:DX)(n:Nat) (a0 : ByteArray × List Int × Bool × Unit) : Option ((tIx × Unit) × Unit) := bindD (C_laws_toIntS D (Prod.fst (Prod.snd a0))) fun b ↦ some (((Prod.fst a0, Prod.fst (Prod.fst b), Prod.fst (Prod.snd (Prod.snd a0)), ()), ()), ())
def F_laws_toIndex (D:DX)(n:Nat) (a0 : ByteArray × List Int × Bool × Unit) : Option ((tIx × Unit) × Unit) := laws_toIndex_e D n a0
theorem E_laws_toIndex (D:DX)(n:Nat) (a0 : ByteArray × List Int × Bool × Unit) : rfC funcTab D n 146 (a0, ()) = F_laws_toIndex D n a0 := by kernel_rfl

def slices_Contains_int_int_e (D:DX)(n:Nat) (a0 : List Int) (a1 : Int) : Option ((Bool × Unit) × Unit) := bindD (C_slices_Index_int_int D a0 a1) fun b ↦ some ((decide (Prod.fst (Prod.fst b) ≥ 0), ()), ())
def F_slices_Contains_int_int (D:DX)(n:Nat) (a0 : List Int) (a1 : Int) : Option ((Bool × Unit) × Unit) := slices_Contains_int_int_e D n a0 a1
theorem E_slices_Contains_int_int (D:DX)(n:Nat) (a0 : List Int) (a1 : Int) : rfC funcTab D n 147 (a0, (a1, ())) = F_slices_Contains_int_int D n a0 a1 := by kernel_rfl

def slices_IndexFunc_impl_Index_impl_Index_b0 (D:DX)(n:Nat) (a1 : Clo) (go : tIxs → Int → Int → Option ((Int × Unit) × Unit)) (K0 : Int → Option ((Int × Unit) × Unit)) (K1 : Option ((Int × Unit) × Unit)) (x0 : tIxs) (x1 : Int) (x2 : Int) : Option ((Int × Unit) × Unit) := br (decide (x2 < x1)) (br (decide (0 ≤ x2) && decide (x2 < (↑(List.length x0) : Int))) (bindD (applyClo ctx D a1 [CapV.val (Ty.pair Ty.str (Ty.pair (Ty.sl (Ty.int IntKind.i64)) (Ty.pair Ty.bool Ty.unit))) (List.getD x0 (Int.toNat x2) (ByteArray.empty, [], false, ()))] Ty.bool) fun b ↦ br b (K0 x2) (go x0 x1 (IntKind.wrap IntKind.i64 (x2 + 1)))) none) K1
def slices_IndexFunc_impl_Index_impl_Index_L0 (D:DX)(n:Nat) (a1 : Clo) (K0 : Int → Option ((Int × Unit) × Unit)) (K1 : Option ((Int × Unit) × Unit)) : Nat → (tIxs) → (Int) → (Int) → Option ((Int × Unit) × Unit) | 0 => (fun x0 x1 x2 => none) | m + 1 => (fun x0 x1 x2 => slices_IndexFunc_impl_Index_impl_Index_b0 D n a1 (slices_IndexFunc_impl_Index_impl_Index_L0 D n a1 K0 K1 m) K0 K1 x0 x1 x2)
def slices_IndexFunc_impl_Index_impl_Index_x0_0 (D:DX)(n:Nat) (a1 : Clo) (v0_0 : Int) : Option ((Int × Unit) × Unit) := some ((v0_0, ()), ())
def slices_IndexFunc_impl_Index_impl_Index_x0_1 (D:DX)(n:Nat) (a1 : Clo) : Option ((Int × Unit) × Unit) := some ((-1, ()), ())
def slices_IndexFunc_impl_Index_impl_Index_LP0 (D:DX)(n:Nat) (a1 : Clo) : (tIxs) → (Int) → (Int) → Option ((Int × Unit) × Unit) := (fun x0 x1 x2 => slices_IndexFunc_impl_Index_impl_Index_L0 D n a1 (fun v0_0 => slices_IndexFunc_impl_Index_impl_Index_x0_0 D n a1 v0_0) (slices_IndexFunc_impl_Index_impl_Index_x0_1 D n a1) n x0 x1 x2)
def slices_IndexFunc_impl_Index_impl_Index_e (D:DX)(n:Nat) (a1 : Clo) (lp0 : tIxs → Int → Int → Option ((Int × Unit) × Unit)) (a0 : tIxs) : Option ((Int × Unit) × Unit) := lp0 a0 (↑(List.length a0) : Int) 0
def F_slices_IndexFunc_impl_Index_impl_Index (D:DX)(n:Nat) (a0 : tIxs) (a1 : Clo) : Option ((Int × Unit) × Unit) := slices_IndexFunc_impl_Index_impl_Index_e D n a1 (slices_IndexFunc_impl_Index_impl_Index_LP0 D n a1) a0
def slices_IndexFunc_impl_Index_impl_Index_Q0 (a1 : Clo) (x0 : tIxs) (x1 : Int) (x2 : Int) : St := stq 19 [(0, AV.val (Ty.sl yX) x0), (1, AV.cloV a1), (7, avI x1), (8, avI x2)] [] 
def slices_IndexFunc_impl_Index_impl_Index_Q0_0 (a1 : Clo) (v0_0 : Int) : St := stq 19 [(4, avI v0_0)] [] 
def slices_IndexFunc_impl_Index_impl_Index_Q0_1 (a1 : Clo) : St := stq 19 [] [] 
theorem slices_IndexFunc_impl_Index_impl_Index_SB0 (D:DX)(n:Nat) (a1 : Clo) (m : Nat) (K : Ex → St → Option (Out ctx 148)) (x0 : tIxs) (x1 : Int) (x2 : Int) :
  LQ funcTab D n 148 [.r, .l, .r, .l] (m + 1) (slices_IndexFunc_impl_Index_impl_Index_Q0 a1 x0 x1 x2) K = slices_IndexFunc_impl_Index_impl_Index_b0 D n a1 (fun x0 x1 x2 => LQ funcTab D n 148 [.r, .l, .r, .l] m (slices_IndexFunc_impl_Index_impl_Index_Q0 a1 x0 x1 x2) K) (fun v0_0 => K (Ex.ret) (slices_IndexFunc_impl_Index_impl_Index_Q0_0 a1 v0_0)) (K (Ex.exit 0) (slices_IndexFunc_impl_Index_impl_Index_Q0_1 a1)) x0 x1 x2 := by kernel_rfl
theorem slices_IndexFunc_impl_Index_impl_Index_EL0 (D:DX)(n:Nat) (a1 : Clo) (K : Ex → St → Option (Out ctx 148)) : ∀ (m : Nat) (x0 : tIxs) (x1 : Int) (x2 : Int), LQ funcTab D n 148 [.r, .l, .r, .l] m (slices_IndexFunc_impl_Index_impl_Index_Q0 a1 x0 x1 x2) K = slices_IndexFunc_impl_Index_impl_Index_L0 D n a1 (fun v0_0 => K (Ex.ret) (slices_IndexFunc_impl_Index_impl_Index_Q0_0 a1 v0_0)) (K (Ex.exit 0) (slices_IndexFunc_impl_Index_impl_Index_Q0_1 a1)) m x0 x1 x2
  | 0, x0, x1, x2 => LQ_zero ..
  | m + 1, x0, x1, x2 => by
    have ih : (fun x0 x1 x2 => LQ funcTab D n 148 [.r, .l, .r, .l] m (slices_IndexFunc_impl_Index_impl_Index_Q0 a1 x0 x1 x2) K) = slices_IndexFunc_impl_Index_impl_Index_L0 D n a1 (fun v0_0 => K (Ex.ret) (slices_IndexFunc_impl_Index_impl_Index_Q0_0 a1 v0_0)) (K (Ex.exit 0) (slices_IndexFunc_impl_Index_impl_Index_Q0_1 a1)) m := by funext x0 x1 x2; exact slices_IndexFunc_impl_Index_impl_Index_EL0 D n a1 K m x0 x1 x2
    rw [slices_IndexFunc_impl_Index_impl_Index_SB0]
    rw [ih]; rfl
theorem slices_IndexFunc_impl_Index_impl_Index_X0_0 (D:DX)(n:Nat) (a1 : Clo) (v0_0 : Int) :
  (CQ funcTab D n 148 [] [.r, .l, .r, .l] (lastK funcTab 148)) (Ex.ret) (slices_IndexFunc_impl_Index_impl_Index_Q0_0 a1 v0_0) = slices_IndexFunc_impl_Index_impl_Index_x0_0 D n a1 v0_0 := by kernel_rfl
theorem slices_IndexFunc_impl_Index_impl_Index_X0_1 (D:DX)(n:Nat) (a1 : Clo) :
  (CQ funcTab D n 148 [] [.r, .l, .r, .l] (lastK funcTab 148)) (Ex.exit 0) (slices_IndexFunc_impl_Index_impl_Index_Q0_1 a1) = slices_IndexFunc_impl_Index_impl_Index_x0_1 D n a1 := by kernel_rfl
theorem slices_IndexFunc_impl_Index_impl_Index_ELP0 (D:DX)(n:Nat) (a1 : Clo) (x0 : tIxs) (x1 : Int) (x2 : Int) :
  LQ funcTab D n 148 [.r, .l, .r, .l] n (slices_IndexFunc_impl_Index_impl_Index_Q0 a1 x0 x1 x2) (CQ funcTab D n 148 [] [.r, .l, .r, .l] (lastK funcTab 148)) = slices_IndexFunc_impl_Index_impl_Index_LP0 D n a1 x0 x1 x2 := by
  rw [slices_IndexFunc_impl_Index_impl_Index_EL0]
  simp only [slices_IndexFunc_impl_Index_impl_Index_X0_0, slices_IndexFunc_impl_Index_impl_Index_X0_1]
  rfl
theorem E_slices_IndexFunc_impl_Index_impl_Index (D:DX)(n:Nat) (a0 : tIxs) (a1 : Clo) : rfC funcTab D n 148 (a0, (a1, ())) = F_slices_IndexFunc_impl_Index_impl_Index D n a0 a1 := by
  have h : rfC funcTab D n 148 (a0, (a1, ())) = slices_IndexFunc_impl_Index_impl_Index_e D n a1 (fun x0 x1 x2 => LQ funcTab D n 148 [.r, .l, .r, .l] n (slices_IndexFunc_impl_Index_impl_Index_Q0 a1 x0 x1 x2) (CQ funcTab D n 148 [] [.r, .l, .r, .l] (lastK funcTab 148))) a0 := by kernel_rfl
  rw [h]
  simp only [slices_IndexFunc_impl_Index_impl_Index_ELP0]
  rfl

def slices_IndexFunc_int_int_b0 (D:DX)(n:Nat) (a1 : Clo) (go : List Int → Int → Int → Option ((Int × Unit) × Unit)) (K0 : Int → Option ((Int × Unit) × Unit)) (K1 : Option ((Int × Unit) × Unit)) (x0 : List Int) (x1 : Int) (x2 : Int) : Option ((Int × Unit) × Unit) := br (decide (x2 < x1)) (br (decide (0 ≤ x2) && decide (x2 < (↑(List.length x0) : Int))) (bindD (applyClo ctx D a1 [CapV.val (Ty.int IntKind.i64) (List.getD x0 (Int.toNat x2) 0)] Ty.bool) fun b ↦ br b (K0 x2) (go x0 x1 (IntKind.wrap IntKind.i64 (x2 + 1)))) none) K1
def slices_IndexFunc_int_int_L0 (D:DX)(n:Nat) (a1 : Clo) (K0 : Int → Option ((Int × Unit) × Unit)) (K1 : Option ((Int × Unit) × Unit)) : Nat → (List Int) → (Int) → (Int) → Option ((Int × Unit) × Unit) | 0 => (fun x0 x1 x2 => none) | m + 1 => (fun x0 x1 x2 => slices_IndexFunc_int_int_b0 D n a1 (slices_IndexFunc_int_int_L0 D n a1 K0 K1 m) K0 K1 x0 x1 x2)
def slices_IndexFunc_int_int_x0_0 (D:DX)(n:Nat) (a1 : Clo) (v0_0 : Int) : Option ((Int × Unit) × Unit) := some ((v0_0, ()), ())
def slices_IndexFunc_int_int_x0_1 (D:DX)(n:Nat) (a1 : Clo) : Option ((Int × Unit) × Unit) := some ((-1, ()), ())
def slices_IndexFunc_int_int_LP0 (D:DX)(n:Nat) (a1 : Clo) : (List Int) → (Int) → (Int) → Option ((Int × Unit) × Unit) := (fun x0 x1 x2 => slices_IndexFunc_int_int_L0 D n a1 (fun v0_0 => slices_IndexFunc_int_int_x0_0 D n a1 v0_0) (slices_IndexFunc_int_int_x0_1 D n a1) n x0 x1 x2)
def slices_IndexFunc_int_int_e (D:DX)(n:Nat) (a1 : Clo) (lp0 : List Int → Int → Int → Option ((Int × Unit) × Unit)) (a0 : List Int) : Option ((Int × Unit) × Unit) := lp0 a0 (↑(List.length a0) : Int) 0
def F_slices_IndexFunc_int_int (D:DX)(n:Nat) (a0 : List Int) (a1 : Clo) : Option ((Int × Unit) × Unit) := slices_IndexFunc_int_int_e D n a1 (slices_IndexFunc_int_int_LP0 D n a1) a0
def slices_IndexFunc_int_int_Q0 (a1 : Clo) (x0 : List Int) (x1 : Int) (x2 : Int) : St := stq 19 [(0, AV.val (Ty.sl yI) x0), (1, AV.cloV a1), (7, avI x1), (8, avI x2)] [] 
def slices_IndexFunc_int_int_Q0_0 (a1 : Clo) (v0_0 : Int) : St := stq 19 [(4, avI v0_0)] [] 
def slices_IndexFunc_int_int_Q0_1 (a1 : Clo) : St := stq 19 [] [] 
theorem slices_IndexFunc_int_int_SB0 (D:DX)(n:Nat) (a1 : Clo) (m : Nat) (K : Ex → St → Option (Out ctx 149)) (x0 : List Int) (x1 : Int) (x2 : Int) :
  LQ funcTab D n 149 [.r, .l, .r, .l] (m + 1) (slices_IndexFunc_int_int_Q0 a1 x0 x1 x2) K = slices_IndexFunc_int_int_b0 D n a1 (fun x0 x1 x2 => LQ funcTab D n 149 [.r, .l, .r, .l] m (slices_IndexFunc_int_int_Q0 a1 x0 x1 x2) K) (fun v0_0 => K (Ex.ret) (slices_IndexFunc_int_int_Q0_0 a1 v0_0)) (K (Ex.exit 0) (slices_IndexFunc_int_int_Q0_1 a1)) x0 x1 x2 := by kernel_rfl
theorem slices_IndexFunc_int_int_EL0 (D:DX)(n:Nat) (a1 : Clo) (K : Ex → St → Option (Out ctx 149)) : ∀ (m : Nat) (x0 : List Int) (x1 : Int) (x2 : Int), LQ funcTab D n 149 [.r, .l, .r, .l] m (slices_IndexFunc_int_int_Q0 a1 x0 x1 x2) K = slices_IndexFunc_int_int_L0 D n a1 (fun v0_0 => K (Ex.ret) (slices_IndexFunc_int_int_Q0_0 a1 v0_0)) (K (Ex.exit 0) (slices_IndexFunc_int_int_Q0_1 a1)) m x0 x1 x2
  | 0, x0, x1, x2 => LQ_zero ..
  | m + 1, x0, x1, x2 => by
    have ih : (fun x0 x1 x2 => LQ funcTab D n 149 [.r, .l, .r, .l] m (slices_IndexFunc_int_int_Q0 a1 x0 x1 x2) K) = slices_IndexFunc_int_int_L0 D n a1 (fun v0_0 => K (Ex.ret) (slices_IndexFunc_int_int_Q0_0 a1 v0_0)) (K (Ex.exit 0) (slices_IndexFunc_int_int_Q0_1 a1)) m := by funext x0 x1 x2; exact slices_IndexFunc_int_int_EL0 D n a1 K m x0 x1 x2
    rw [slices_IndexFunc_int_int_SB0]
    rw [ih]; rfl
theorem slices_IndexFunc_int_int_X0_0 (D:DX)(n:Nat) (a1 : Clo) (v0_0 : Int) :
  (CQ funcTab D n 149 [] [.r, .l, .r, .l] (lastK funcTab 149)) (Ex.ret) (slices_IndexFunc_int_int_Q0_0 a1 v0_0) = slices_IndexFunc_int_int_x0_0 D n a1 v0_0 := by kernel_rfl
theorem slices_IndexFunc_int_int_X0_1 (D:DX)(n:Nat) (a1 : Clo) :
  (CQ funcTab D n 149 [] [.r, .l, .r, .l] (lastK funcTab 149)) (Ex.exit 0) (slices_IndexFunc_int_int_Q0_1 a1) = slices_IndexFunc_int_int_x0_1 D n a1 := by kernel_rfl
theorem slices_IndexFunc_int_int_ELP0 (D:DX)(n:Nat) (a1 : Clo) (x0 : List Int) (x1 : Int) (x2 : Int) :
  LQ funcTab D n 149 [.r, .l, .r, .l] n (slices_IndexFunc_int_int_Q0 a1 x0 x1 x2) (CQ funcTab D n 149 [] [.r, .l, .r, .l] (lastK funcTab 149)) = slices_IndexFunc_int_int_LP0 D n a1 x0 x1 x2 := by
  rw [slices_IndexFunc_int_int_EL0]
  simp only [slices_IndexFunc_int_int_X0_0, slices_IndexFunc_int_int_X0_1]
  rfl
theorem E_slices_IndexFunc_int_int (D:DX)(n:Nat) (a0 : List Int) (a1 : Clo) : rfC funcTab D n 149 (a0, (a1, ())) = F_slices_IndexFunc_int_int D n a0 a1 := by
  have h : rfC funcTab D n 149 (a0, (a1, ())) = slices_IndexFunc_int_int_e D n a1 (fun x0 x1 x2 => LQ funcTab D n 149 [.r, .l, .r, .l] n (slices_IndexFunc_int_int_Q0 a1 x0 x1 x2) (CQ funcTab D n 149 [] [.r, .l, .r, .l] (lastK funcTab 149))) a0 := by kernel_rfl
  rw [h]
  simp only [slices_IndexFunc_int_int_ELP0]
  rfl

def laws_eqCol_e (D:DX)(n:Nat) (a0 : ByteArray × Int × Bool × Unit) (a1 : ByteArray × Int × Bool × Unit) : Option ((Bool × Unit) × Unit) := br (!List.beq (ByteArray.toList (Prod.fst a0)) (ByteArray.toList (Prod.fst a1))) (some ((false, ()), ())) (br (Prod.fst (Prod.snd a0) != Prod.fst (Prod.snd a1)) (some ((false, ()), ())) (br (!decide (Prod.fst (Prod.snd (Prod.snd a0)) = Prod.fst (Prod.snd (Prod.snd a1)))) (some ((false, ()), ())) (some ((true, ()), ()))))
def F_laws_eqCol (D:DX)(n:Nat) (a0 : ByteArray × Int × Bool × Unit) (a1 : ByteArray × Int × Bool × Unit) : Option ((Bool × Unit) × Unit) := laws_eqCol_e D n a0 a1
theorem E_laws_eqCol (D:DX)(n:Nat) (a0 : ByteArray × Int × Bool × Unit) (a1 : ByteArray × Int × Bool × Unit) : rfC funcTab D n 150 (a0, (a1, ())) = F_laws_eqCol D n a0 a1 := by kernel_rfl

def laws_eqIndex_e (D:DX)(n:Nat) (a0 : ByteArray × List Int × Bool × Unit) (a1 : ByteArray × List Int × Bool × Unit) : Option ((Bool × Unit) × Unit) := br (!List.beq (ByteArray.toList (Prod.fst a0)) (ByteArray.toList (Prod.fst a1))) (some ((false, ()), ())) (bindD (C_laws_eqIntS D (Prod.fst (Prod.snd a0)) (Prod.fst (Prod.snd a1))) fun b ↦ br (!Prod.fst (Prod.fst b)) (some ((false, ()), ())) (br (!decide (Prod.fst (Prod.snd (Prod.snd a0)) = Prod.fst (Prod.snd (Prod.snd a1)))) (some ((false, ()), ())) (some ((true, ()), ()))))
def F_laws_eqIndex (D:DX)(n:Nat) (a0 : ByteArray × List Int × Bool × Unit) (a1 : ByteArray × List Int × Bool × Unit) : Option ((Bool × Unit) × Unit) := laws_eqIndex_e D n a0 a1
theorem E_laws_eqIndex (D:DX)(n:Nat) (a0 : ByteArray × List Int × Bool × Unit) (a1 : ByteArray × List Int × Bool × Unit) : rfC funcTab D n 151 (a0, (a1, ())) = F_laws_eqIndex D n a0 a1 := by kernel_rfl

def spec_l19DrawRight_b0 (D:DX)(n:Nat) (go : Int → Int → List Int × Int × Int × Unit → tSch → tSch → List ByteArray → Option (((tSch) × Unit) × tCur × Unit)) (K0 : Int → List Int × Int × Int × Unit → tSch → tSch → Option (((tSch) × Unit) × tCur × Unit)) (x0 : Int) (x1 : Int) (x2 : List Int × Int × Int × Unit) (x3 : tSch) (x4 : tSch) (x5 : List ByteArray) : Option (((tSch) × Unit) × tCur × Unit) := br (decide (x1 < x0)) (br (decide (0 ≤ x1) && decide (x1 < (↑(List.length x5) : Int))) (bindD (C_spec_l1Below D x2 3) fun b ↦ br (decide (x1 > 0)) (bindD (C_spec_l1Once D (Prod.fst (Prod.snd b)) 2) fun b_1 ↦ br (decide (List.length (Prod.fst x4) + 1 ≤ bound)) (go x0 (IntKind.wrap IntKind.i64 (x1 + 1)) (Prod.fst (Prod.snd b_1)) x3 (Prod.fst x4 ++ [(List.getD x5 (Int.toNat x1) ByteArray.empty, IntKind.wrap IntKind.i64 (1 + Prod.fst (Prod.fst b)), Prod.fst (Prod.fst b_1), ())], Prod.snd x4) x5) none) (br (decide (List.length (Prod.fst x4) + 1 ≤ bound)) (go x0 (IntKind.wrap IntKind.i64 (x1 + 1)) (Prod.fst (Prod.snd b)) x3 (Prod.fst x4 ++ [(List.getD x5 (Int.toNat x1) ByteArray.empty, IntKind.wrap IntKind.i64 (1 + Prod.fst (Prod.fst b)), false, ())], Prod.snd x4) x5) none)) none) (K0 x0 x2 x3 x4)
def spec_l19DrawRight_L0 (D:DX)(n:Nat) (K0 : Int → List Int × Int × Int × Unit → tSch → tSch → Option (((tSch) × Unit) × tCur × Unit)) : Nat → (Int) → (Int) → tCur → (tSch) → (tSch) → (List ByteArray) → Option (((tSch) × Unit) × tCur × Unit) | 0 => (fun x0 x1 x2 x3 x4 x5 => none) | m + 1 => (fun x0 x1 x2 x3 x4 x5 => spec_l19DrawRight_b0 D n (spec_l19DrawRight_L0 D n K0 m) K0 x0 x1 x2 x3 x4 x5)
def spec_l19DrawRight_b1 (D:DX)(n:Nat) (go : Int → Int → List Int × Int × Int × Unit → tSch → tSch → Option (((tSch) × Unit) × tCur × Unit)) (K0 : List Int × Int × Int × Unit → tSch → tSch → Option (((tSch) × Unit) × tCur × Unit)) (x1_0 : Int) (x1_1 : Int) (x1_2 : List Int × Int × Int × Unit) (x1_3 : tSch) (x1_4 : tSch) : Option (((tSch) × Unit) × tCur × Unit) := bindD (C_spec_l1Below D x1_2 3) fun b ↦ br (decide (x1_1 < Prod.fst (Prod.fst b))) (bindD (C_spec_l1Below D (Prod.fst (Prod.snd b)) (IntKind.wrap IntKind.i64 (x1_0 - 1))) fun b ↦ br (decide (0 ≤ x1_1) && decide (x1_1 < (↑3 : Int))) (bindD (C_spec_l1Once D (Prod.fst (Prod.snd b)) 2) fun b_1 ↦ bindD (C_spec_l1Once D (Prod.fst (Prod.snd b_1)) 2) fun b_2 ↦ br (Prod.fst (Prod.fst b_2)) (br (decide (x1_0 = 0)) none (br (decide (List.length (Prod.fst (Prod.snd (Prod.snd x1_4))) + 1 ≤ bound)) (go x1_0 (IntKind.wrap IntKind.i64 (x1_1 + 1)) (Prod.fst (Prod.snd b_2)) x1_3 (Prod.fst x1_4, Prod.fst (Prod.snd x1_4), Prod.fst (Prod.snd (Prod.snd x1_4)) ++ [(List.getD [ByteArray.mk #[UInt8.ofNat 120], ByteArray.mk #[UInt8.ofNat 121], ByteArray.mk #[UInt8.ofNat 122]] (Int.toNat x1_1) ByteArray.empty, [IntKind.wrap IntKind.i64 (1 + Prod.fst (Prod.fst b))] ++ [Int.tmod (IntKind.wrap IntKind.i64 (IntKind.wrap IntKind.i64 (1 + Prod.fst (Prod.fst b)) + 1)) x1_0], Prod.fst (Prod.fst b_1), ())], Prod.snd (Prod.snd (Prod.snd x1_4)))) none)) (br (decide (List.length (Prod.fst (Prod.snd (Prod.snd x1_4))) + 1 ≤ bound)) (go x1_0 (IntKind.wrap IntKind.i64 (x1_1 + 1)) (Prod.fst (Prod.snd b_2)) x1_3 (Prod.fst x1_4, Prod.fst (Prod.snd x1_4), Prod.fst (Prod.snd (Prod.snd x1_4)) ++ [(List.getD [ByteArray.mk #[UInt8.ofNat 120], ByteArray.mk #[UInt8.ofNat 121], ByteArray.mk #[UInt8.ofNat 122]] (Int.toNat x1_1) ByteArray.empty, [IntKind.wrap IntKind.i64 (1 + Prod.fst (Prod.fst b))], Prod.fst (Prod.fst b_1), ())], Prod.snd (Prod.snd (Prod.snd x1_4)))) none)) none) (K0 (Prod.fst (Prod.snd b)) x1_3 x1_4)
def spec_l19DrawRight_L1 (D:DX)(n:Nat) (K0 : List Int × Int × Int × Unit → tSch → tSch → Option (((tSch) × Unit) × tCur × Unit)) : Nat → (Int) → (Int) → tCur → (tSch) → (tSch) → Option (((tSch) × Unit) × tCur × Unit) | 0 => (fun x1_0 x1_1 x1_2 x1_3 x1_4 => none) | m + 1 => (fun x1_0 x1_1 x1_2 x1_3 x1_4 => spec_l19DrawRight_b1 D n (spec_l19DrawRight_L1 D n K0 m) K0 x1_0 x1_1 x1_2 x1_3 x1_4)
def spec_l19DrawRight_x1_0 (D:DX)(n:Nat) (v0_0 : List Int × Int × Int × Unit) (v0_1 : tSch) (v0_2 : tSch) : Option (((tSch) × Unit) × tCur × Unit) := bindD (C_spec_l1PickInt D v0_0 [2, 3]) fun b ↦ br (decide (0 ≤ 0) && decide (0 < (↑(List.length (Prod.fst v0_2)) : Int))) (some (((List.set (Prod.fst v0_2) 0 (Prod.fst (List.getD (Prod.fst v0_2) 0 (ByteArray.empty, 0, false, ())), Prod.fst (Prod.fst b), Prod.snd (Prod.snd (List.getD (Prod.fst v0_2) 0 (ByteArray.empty, 0, false, ())))), Prod.fst (Prod.snd v0_2), Prod.fst (Prod.snd (Prod.snd v0_2)), ()), ()), Prod.fst (Prod.snd b), ())) none
def spec_l19DrawRight_LP1 (D:DX)(n:Nat) : (Int) → (Int) → tCur → (tSch) → (tSch) → Option (((tSch) × Unit) × tCur × Unit) := (fun x1_0 x1_1 x1_2 x1_3 x1_4 => spec_l19DrawRight_L1 D n (fun v0_0 v0_1 v0_2 => spec_l19DrawRight_x1_0 D n v0_0 v0_1 v0_2) n x1_0 x1_1 x1_2 x1_3 x1_4)
def spec_l19DrawRight_x0_0 (D:DX)(n:Nat) (lp1 : Int → Int → List Int × Int × Int × Unit → tSch → tSch → Option (((tSch) × Unit) × tCur × Unit)) (v0_0 : Int) (v0_1 : List Int × Int × Int × Unit) (v0_2 : tSch) (v0_3 : tSch) : Option (((tSch) × Unit) × tCur × Unit) := lp1 v0_0 0 v0_1 v0_2 (Prod.fst v0_3, [0], Prod.snd (Prod.snd v0_3))
def spec_l19DrawRight_LP0 (D:DX)(n:Nat) : (Int) → (Int) → tCur → (tSch) → (tSch) → (List ByteArray) → Option (((tSch) × Unit) × tCur × Unit) := (fun x0 x1 x2 x3 x4 x5 => spec_l19DrawRight_L0 D n (fun v0_0 v0_1 v0_2 v0_3 => spec_l19DrawRight_x0_0 D n (spec_l19DrawRight_LP1 D n) v0_0 v0_1 v0_2 v0_3) n x0 x1 x2 x3 x4 x5)
def spec_l19DrawRight_e (D:DX)(n:Nat) (lp0 : Int → Int → List Int × Int × Int × Unit → tSch → tSch → List ByteArray → Option (((tSch) × Unit) × tCur × Unit)) (a0 : List Int × Int × Int × Unit) : Option (((tSch) × Unit) × tCur × Unit) := bindD (C_spec_l1Below D a0 3) fun b ↦ lp0 (IntKind.wrap IntKind.i64 (2 + Prod.fst (Prod.fst b))) 0 (Prod.fst (Prod.snd b)) ([], [], [], ()) ([], [], [], ()) [ByteArray.mk #[UInt8.ofNat 105, UInt8.ofNat 100], ByteArray.mk #[UInt8.ofNat 110, UInt8.ofNat 97, UInt8.ofNat 109, UInt8.ofNat 101], ByteArray.mk #[UInt8.ofNat 115, UInt8.ofNat 105, UInt8.ofNat 122, UInt8.ofNat 101], ByteArray.mk #[UInt8.ofNat 111, UInt8.ofNat 110]]
def F_spec_l19DrawRight (D:DX)(n:Nat) (a0 : List Int × Int × Int × Unit) : Option (((tSch) × Unit) × tCur × Unit) := spec_l19DrawRight_e D n (spec_l19DrawRight_LP0 D n) a0
def spec_l19DrawRight_Q0 (x0 : Int) (x1 : Int) (x2 : List Int × Int × Int × Unit) (x3 : tSch) (x4 : tSch) (x5 : List ByteArray) : St := stq 86 [(0, AV.addr 0 []), (2, AV.addr 2 []), (3, AV.addr 3 []), (4, AV.brw 4 [] 0), (5, avI x0), (6, avI x1)] [(0, Root.mk (Ty.pair (Ty.sl (Ty.int IntKind.u8)) (Ty.pair yI (Ty.pair yI Ty.unit))) Mk.no x2 true), (2, Root.mk yS (Mk.pr (Mk.own 0 (Mk.pr Mk.no (Mk.pr Mk.no (Mk.pr Mk.no Mk.no)))) (Mk.pr (Mk.own 0 Mk.no) (Mk.pr (Mk.own 0 (Mk.pr Mk.no (Mk.pr (Mk.own 0 Mk.no) (Mk.pr Mk.no Mk.no)))) Mk.no))) x3 true), (3, Root.mk yS (Mk.pr (Mk.own 0 (Mk.pr Mk.no (Mk.pr Mk.no (Mk.pr Mk.no Mk.no)))) (Mk.pr (Mk.own 0 Mk.no) (Mk.pr (Mk.own 0 (Mk.pr Mk.no (Mk.pr (Mk.own 0 Mk.no) (Mk.pr Mk.no Mk.no)))) Mk.no))) x4 true), (4, Root.mk (Ty.sl Ty.str) (Mk.own 0 Mk.no) x5 false)] 
def spec_l19DrawRight_Q0_0 (v0_0 : Int) (v0_1 : List Int × Int × Int × Unit) (v0_2 : tSch) (v0_3 : tSch) : St := stq 86 [(0, AV.addr 0 []), (2, AV.addr 2 []), (3, AV.addr 3 []), (5, avI v0_0)] [(0, Root.mk (Ty.pair (Ty.sl (Ty.int IntKind.u8)) (Ty.pair yI (Ty.pair yI Ty.unit))) Mk.no v0_1 true), (2, Root.mk yS (Mk.pr (Mk.own 0 (Mk.pr Mk.no (Mk.pr Mk.no (Mk.pr Mk.no Mk.no)))) (Mk.pr (Mk.own 0 Mk.no) (Mk.pr (Mk.own 0 (Mk.pr Mk.no (Mk.pr (Mk.own 0 Mk.no) (Mk.pr Mk.no Mk.no)))) Mk.no))) v0_2 true), (3, Root.mk yS (Mk.pr (Mk.own 0 (Mk.pr Mk.no (Mk.pr Mk.no (Mk.pr Mk.no Mk.no)))) (Mk.pr (Mk.own 0 Mk.no) (Mk.pr (Mk.own 0 (Mk.pr Mk.no (Mk.pr (Mk.own 0 Mk.no) (Mk.pr Mk.no Mk.no)))) Mk.no))) v0_3 true)] 
def spec_l19DrawRight_Q1 (x1_0 : Int) (x1_1 : Int) (x1_2 : List Int × Int × Int × Unit) (x1_3 : tSch) (x1_4 : tSch) : St := stq 86 [(0, AV.addr 0 []), (2, AV.addr 2 []), (3, AV.addr 3 []), (5, avI x1_0), (7, avI x1_1)] [(0, Root.mk (Ty.pair (Ty.sl (Ty.int IntKind.u8)) (Ty.pair yI (Ty.pair yI Ty.unit))) Mk.no x1_2 true), (2, Root.mk yS (Mk.pr (Mk.own 0 (Mk.pr Mk.no (Mk.pr Mk.no (Mk.pr Mk.no Mk.no)))) (Mk.pr (Mk.own 0 Mk.no) (Mk.pr (Mk.own 0 (Mk.pr Mk.no (Mk.pr (Mk.own 0 Mk.no) (Mk.pr Mk.no Mk.no)))) Mk.no))) x1_3 true), (3, Root.mk yS (Mk.pr (Mk.own 0 (Mk.pr Mk.no (Mk.pr Mk.no (Mk.pr Mk.no Mk.no)))) (Mk.pr (Mk.own 0 Mk.no) (Mk.pr (Mk.own 0 (Mk.pr Mk.no (Mk.pr (Mk.own 0 Mk.no) (Mk.pr Mk.no Mk.no)))) Mk.no))) x1_4 true)] 
def spec_l19DrawRight_Q1_0 (v0_0 : List Int × Int × Int × Unit) (v0_1 : tSch) (v0_2 : tSch) : St := stq 86 [(0, AV.addr 0 []), (2, AV.addr 2 []), (3, AV.addr 3 [])] [(0, Root.mk (Ty.pair (Ty.sl (Ty.int IntKind.u8)) (Ty.pair yI (Ty.pair yI Ty.unit))) Mk.no v0_0 true), (2, Root.mk yS (Mk.pr (Mk.own 0 (Mk.pr Mk.no (Mk.pr Mk.no (Mk.pr Mk.no Mk.no)))) (Mk.pr (Mk.own 0 Mk.no) (Mk.pr (Mk.own 0 (Mk.pr Mk.no (Mk.pr (Mk.own 0 Mk.no) (Mk.pr Mk.no Mk.no)))) Mk.no))) v0_1 true), (3, Root.mk yS (Mk.pr (Mk.own 0 (Mk.pr Mk.no (Mk.pr Mk.no (Mk.pr Mk.no Mk.no)))) (Mk.pr (Mk.own 0 Mk.no) (Mk.pr (Mk.own 0 (Mk.pr Mk.no (Mk.pr (Mk.own 0 Mk.no) (Mk.pr Mk.no Mk.no)))) Mk.no))) v0_2 true)] 
theorem spec_l19DrawRight_SB0 (D:DX)(n:Nat) (m : Nat) (K : Ex → St → Option (Out ctx 152)) (x0 : Int) (x1 : Int) (x2 : List Int × Int × Int × Unit) (x3 : tSch) (x4 : tSch) (x5 : List ByteArray) :
  LQ funcTab D n 152 [.r, .r, .r, .r, .l, .r, .l] (m + 1) (spec_l19DrawRight_Q0 x0 x1 x2 x3 x4 x5) K = spec_l19DrawRight_b0 D n (fun x0 x1 x2 x3 x4 x5 => LQ funcTab D n 152 [.r, .r, .r, .r, .l, .r, .l] m (spec_l19DrawRight_Q0 x0 x1 x2 x3 x4 x5) K) (fun v0_0 v0_1 v0_2 v0_3 => K (Ex.exit 0) (spec_l19DrawRight_Q0_0 v0_0 v0_1 v0_2 v0_3)) x0 x1 x2 x3 x4 x5 := by kernel_rfl
theorem spec_l19DrawRight_EL0 (D:DX)(n:Nat) (K : Ex → St → Option (Out ctx 152)) : ∀ (m : Nat) (x0 : Int) (x1 : Int) (x2 : List Int × Int × Int × Unit) (x3 : tSch) (x4 : tSch) (x5 : List ByteArray), LQ funcTab D n 152 [.r, .r, .r, .r, .l, .r, .l] m (spec_l19DrawRight_Q0 x0 x1 x2 x3 x4 x5) K = spec_l19DrawRight_L0 D n (fun v0_0 v0_1 v0_2 v0_3 => K (Ex.exit 0) (spec_l19DrawRight_Q0_0 v0_0 v0_1 v0_2 v0_3)) m x0 x1 x2 x3 x4 x5
  | 0, x0, x1, x2, x3, x4, x5 => LQ_zero ..
  | m + 1, x0, x1, x2, x3, x4, x5 => by
    have ih : (fun x0 x1 x2 x3 x4 x5 => LQ funcTab D n 152 [.r, .r, .r, .r, .l, .r, .l] m (spec_l19DrawRight_Q0 x0 x1 x2 x3 x4 x5) K) = spec_l19DrawRight_L0 D n (fun v0_0 v0_1 v0_2 v0_3 => K (Ex.exit 0) (spec_l19DrawRight_Q0_0 v0_0 v0_1 v0_2 v0_3)) m := by funext x0 x1 x2 x3 x4 x5; exact spec_l19DrawRight_EL0 D n K m x0 x1 x2 x3 x4 x5
    rw [spec_l19DrawRight_SB0]
    rw [ih]; rfl
theorem spec_l19DrawRight_SB1 (D:DX)(n:Nat) (m : Nat) (K : Ex → St → Option (Out ctx 152)) (x1_0 : Int) (x1_1 : Int) (x1_2 : List Int × Int × Int × Unit) (x1_3 : tSch) (x1_4 : tSch) :
  LQ funcTab D n 152 [.r, .r, .r, .r, .r, .r, .l, .r, .l] (m + 1) (spec_l19DrawRight_Q1 x1_0 x1_1 x1_2 x1_3 x1_4) K = spec_l19DrawRight_b1 D n (fun x1_0 x1_1 x1_2 x1_3 x1_4 => LQ funcTab D n 152 [.r, .r, .r, .r, .r, .r, .l, .r, .l] m (spec_l19DrawRight_Q1 x1_0 x1_1 x1_2 x1_3 x1_4) K) (fun v0_0 v0_1 v0_2 => K (Ex.exit 2) (spec_l19DrawRight_Q1_0 v0_0 v0_1 v0_2)) x1_0 x1_1 x1_2 x1_3 x1_4 := by kernel_rfl
theorem spec_l19DrawRight_EL1 (D:DX)(n:Nat) (K : Ex → St → Option (Out ctx 152)) : ∀ (m : Nat) (x1_0 : Int) (x1_1 : Int) (x1_2 : List Int × Int × Int × Unit) (x1_3 : tSch) (x1_4 : tSch), LQ funcTab D n 152 [.r, .r, .r, .r, .r, .r, .l, .r, .l] m (spec_l19DrawRight_Q1 x1_0 x1_1 x1_2 x1_3 x1_4) K = spec_l19DrawRight_L1 D n (fun v0_0 v0_1 v0_2 => K (Ex.exit 2) (spec_l19DrawRight_Q1_0 v0_0 v0_1 v0_2)) m x1_0 x1_1 x1_2 x1_3 x1_4
  | 0, x1_0, x1_1, x1_2, x1_3, x1_4 => LQ_zero ..
  | m + 1, x1_0, x1_1, x1_2, x1_3, x1_4 => by
    have ih : (fun x1_0 x1_1 x1_2 x1_3 x1_4 => LQ funcTab D n 152 [.r, .r, .r, .r, .r, .r, .l, .r, .l] m (spec_l19DrawRight_Q1 x1_0 x1_1 x1_2 x1_3 x1_4) K) = spec_l19DrawRight_L1 D n (fun v0_0 v0_1 v0_2 => K (Ex.exit 2) (spec_l19DrawRight_Q1_0 v0_0 v0_1 v0_2)) m := by funext x1_0 x1_1 x1_2 x1_3 x1_4; exact spec_l19DrawRight_EL1 D n K m x1_0 x1_1 x1_2 x1_3 x1_4
    rw [spec_l19DrawRight_SB1]
    rw [ih]; rfl
theorem spec_l19DrawRight_X1_0 (D:DX)(n:Nat) (v0_0 : List Int × Int × Int × Unit) (v0_1 : tSch) (v0_2 : tSch) :
  (CQ funcTab D n 152 [] [.r, .r, .r, .r, .r, .r, .l, .r, .l] (lastK funcTab 152)) (Ex.exit 2) (spec_l19DrawRight_Q1_0 v0_0 v0_1 v0_2) = spec_l19DrawRight_x1_0 D n v0_0 v0_1 v0_2 := by kernel_rfl
theorem spec_l19DrawRight_ELP1 (D:DX)(n:Nat) (x1_0 : Int) (x1_1 : Int) (x1_2 : List Int × Int × Int × Unit) (x1_3 : tSch) (x1_4 : tSch) :
  LQ funcTab D n 152 [.r, .r, .r, .r, .r, .r, .l, .r, .l] n (spec_l19DrawRight_Q1 x1_0 x1_1 x1_2 x1_3 x1_4) (CQ funcTab D n 152 [] [.r, .r, .r, .r, .r, .r, .l, .r, .l] (lastK funcTab 152)) = spec_l19DrawRight_LP1 D n x1_0 x1_1 x1_2 x1_3 x1_4 := by
  rw [spec_l19DrawRight_EL1]
  simp only [spec_l19DrawRight_X1_0]
  rfl
theorem spec_l19DrawRight_X0_0 (D:DX)(n:Nat) (v0_0 : Int) (v0_1 : List Int × Int × Int × Unit) (v0_2 : tSch) (v0_3 : tSch) :
  (CQ funcTab D n 152 [] [.r, .r, .r, .r, .l, .r, .l] (lastK funcTab 152)) (Ex.exit 0) (spec_l19DrawRight_Q0_0 v0_0 v0_1 v0_2 v0_3) = spec_l19DrawRight_x0_0 D n (fun x1_0 x1_1 x1_2 x1_3 x1_4 => LQ funcTab D n 152 [.r, .r, .r, .r, .r, .r, .l, .r, .l] n (spec_l19DrawRight_Q1 x1_0 x1_1 x1_2 x1_3 x1_4) (CQ funcTab D n 152 [] [.r, .r, .r, .r, .r, .r, .l, .r, .l] (lastK funcTab 152))) v0_0 v0_1 v0_2 v0_3 := by kernel_rfl
theorem spec_l19DrawRight_ELP0 (D:DX)(n:Nat) (x0 : Int) (x1 : Int) (x2 : List Int × Int × Int × Unit) (x3 : tSch) (x4 : tSch) (x5 : List ByteArray) :
  LQ funcTab D n 152 [.r, .r, .r, .r, .l, .r, .l] n (spec_l19DrawRight_Q0 x0 x1 x2 x3 x4 x5) (CQ funcTab D n 152 [] [.r, .r, .r, .r, .l, .r, .l] (lastK funcTab 152)) = spec_l19DrawRight_LP0 D n x0 x1 x2 x3 x4 x5 := by
  rw [spec_l19DrawRight_EL0]
  simp only [spec_l19DrawRight_X0_0, spec_l19DrawRight_ELP1]
  rfl
theorem E_spec_l19DrawRight (D:DX)(n:Nat) (a0 : List Int × Int × Int × Unit) : rfC funcTab D n 152 (a0, ()) = F_spec_l19DrawRight D n a0 := by
  have h : rfC funcTab D n 152 (a0, ()) = spec_l19DrawRight_e D n (fun x0 x1 x2 x3 x4 x5 => LQ funcTab D n 152 [.r, .r, .r, .r, .l, .r, .l] n (spec_l19DrawRight_Q0 x0 x1 x2 x3 x4 x5) (CQ funcTab D n 152 [] [.r, .r, .r, .r, .l, .r, .l] (lastK funcTab 152))) a0 := by kernel_rfl
  rw [h]
  simp only [spec_l19DrawRight_ELP0]
  rfl

def spec_l1PickInt_e (D:DX)(n:Nat) (a0 : List Int × Int × Int × Unit) (a1 : List Int) : Option ((Int × Unit) × tCur × Unit) := bindD (C_spec_l1Below D a0 (↑(List.length a1) : Int)) fun b ↦ br (decide (0 ≤ Prod.fst (Prod.fst b)) && decide (Prod.fst (Prod.fst b) < (↑(List.length a1) : Int))) (some ((List.getD a1 (Int.toNat (Prod.fst (Prod.fst b))) 0, ()), Prod.fst (Prod.snd b), ())) none
def F_spec_l1PickInt (D:DX)(n:Nat) (a0 : List Int × Int × Int × Unit) (a1 : List Int) : Option ((Int × Unit) × tCur × Unit) := spec_l1PickInt_e D n a0 a1
theorem E_spec_l1PickInt (D:DX)(n:Nat) (a0 : List Int × Int × Int × Unit) (a1 : List Int) : rfC funcTab D n 153 (a0, (a1, ())) = F_spec_l1PickInt D n a0 a1 := by kernel_rfl

def spec_l1Once_e (D:DX)(n:Nat) (a0 : List Int × Int × Int × Unit) (a1 : Int) : Option ((Bool × Unit) × tCur × Unit) := bindD (C_spec_l1Below D a0 a1) fun b ↦ some ((decide (Prod.fst (Prod.fst b) = 0), ()), Prod.fst (Prod.snd b), ())
def F_spec_l1Once (D:DX)(n:Nat) (a0 : List Int × Int × Int × Unit) (a1 : Int) : Option ((Bool × Unit) × tCur × Unit) := spec_l1Once_e D n a0 a1
theorem E_spec_l1Once (D:DX)(n:Nat) (a0 : List Int × Int × Int × Unit) (a1 : Int) : rfC funcTab D n 154 (a0, (a1, ())) = F_spec_l1Once D n a0 a1 := by kernel_rfl

def spec_l17DrawOf_e (D:DX)(n:Nat) (a0 : List Int × Int × Int × Unit) (a1 : Int) : Option ((tVal × Unit) × tCur × Unit) := br (decide (a1 = 1)) (bindD (C_spec_l1Below D a0 2) fun b ↦ some (((a1, Prod.fst (Prod.fst b), ByteArray.empty, ()), ()), Prod.fst (Prod.snd b), ())) (br (decide (a1 = 2)) (bindD (C_spec_l1PickInt D a0 [0, 1, -1, 7, 255, 256, -1000000000000, 1000000000000]) fun b ↦ some (((a1, Prod.fst (Prod.fst b), ByteArray.empty, ()), ()), Prod.fst (Prod.snd b), ())) (br (decide (a1 = 3)) (bindD (C_spec_l1Pick D a0 (List.set (List.set (List.set (List.set (List.set (List.set (List.set (List.set (List.set (List.replicate 9 ByteArray.empty) 0 (ByteArray.mk #[])) 1 (ByteArray.mk #[UInt8.ofNat 97])) 2 (ByteArray.mk #[UInt8.ofNat 97, UInt8.ofNat 98])) 3 (ByteArray.mk #[UInt8.ofNat 97, UInt8.ofNat 0])) 4 (ByteArray.mk #[UInt8.ofNat 97, UInt8.ofNat 0, UInt8.ofNat 98])) 5 (ByteArray.mk #[UInt8.ofNat 0])) 6 (ByteArray.mk #[UInt8.ofNat 1])) 7 (ByteArray.mk #[UInt8.ofNat 255])) 8 (ByteArray.mk #[UInt8.ofNat 98]))) fun b ↦ some (((a1, 0, Prod.fst (Prod.fst b), ()), ()), Prod.fst (Prod.snd b), ())) (some (((0, 0, ByteArray.empty, ()), ()), a0, ()))))
def F_spec_l17DrawOf (D:DX)(n:Nat) (a0 : List Int × Int × Int × Unit) (a1 : Int) : Option ((tVal × Unit) × tCur × Unit) := spec_l17DrawOf_e D n a0 a1
theorem E_spec_l17DrawOf (D:DX)(n:Nat) (a0 : List Int × Int × Int × Unit) (a1 : Int) : rfC funcTab D n 155 (a0, (a1, ())) = F_spec_l17DrawOf D n a0 a1 := by kernel_rfl

def spec_l1Byte_e (D:DX)(n:Nat) (a0 : List Int × Int × Int × Unit) : Option ((Int × Unit) × tCur × Unit) := br (decide (Prod.fst (Prod.snd a0) < (↑(List.length (Prod.fst a0)) : Int))) (br (decide (0 ≤ Prod.fst (Prod.snd a0)) && decide (Prod.fst (Prod.snd a0) < (↑(List.length (Prod.fst a0)) : Int))) (some ((IntKind.wrap IntKind.i64 (↑(BitVec.toNat (BitVec.and (BitVec.ofInt (IntKind.bits IntKind.i64) (IntKind.wrap IntKind.i64 (IntKind.wrap IntKind.i64 (↑(BitVec.toNat (BitVec.and (BitVec.ofInt (IntKind.bits IntKind.i64) (IntKind.wrap IntKind.i64 (↑(BitVec.toNat (BitVec.xor (BitVec.ofInt (IntKind.bits IntKind.i64) (Int.fdiv (IntKind.wrap IntKind.i64 (IntKind.wrap IntKind.i64 (Prod.fst (Prod.snd (Prod.snd a0)) * 6364136223846793005) + 1442695040888963407)) (Int.pow 2 (if Int.toNat 33 ≤ IntKind.bits IntKind.i64 then Int.toNat 33 else IntKind.bits IntKind.i64)))) (BitVec.ofInt (IntKind.bits IntKind.i64) (Int.fdiv (IntKind.wrap IntKind.i64 (IntKind.wrap IntKind.i64 (Prod.fst (Prod.snd (Prod.snd a0)) * 6364136223846793005) + 1442695040888963407)) (Int.pow 2 (if Int.toNat 45 ≤ IntKind.bits IntKind.i64 then Int.toNat 45 else IntKind.bits IntKind.i64)))))) : Int))) (BitVec.ofInt (IntKind.bits IntKind.i64) 255))) : Int) + IntKind.wrap IntKind.i64 (List.getD (Prod.fst a0) (Int.toNat (Prod.fst (Prod.snd a0))) 0)))) (BitVec.ofInt (IntKind.bits IntKind.i64) 255))) : Int), ()), (Prod.fst a0, IntKind.wrap IntKind.i64 (Prod.fst (Prod.snd a0) + 1), IntKind.wrap IntKind.i64 (IntKind.wrap IntKind.i64 (Prod.fst (Prod.snd (Prod.snd a0)) * 6364136223846793005) + 1442695040888963407), Prod.snd (Prod.snd (Prod.snd a0))), ())) none) (some ((IntKind.wrap IntKind.i64 (↑(BitVec.toNat (BitVec.and (BitVec.ofInt (IntKind.bits IntKind.i64) (IntKind.wrap IntKind.i64 (↑(BitVec.toNat (BitVec.xor (BitVec.ofInt (IntKind.bits IntKind.i64) (Int.fdiv (IntKind.wrap IntKind.i64 (IntKind.wrap IntKind.i64 (Prod.fst (Prod.snd (Prod.snd a0)) * 6364136223846793005) + 1442695040888963407)) (Int.pow 2 (if Int.toNat 33 ≤ IntKind.bits IntKind.i64 then Int.toNat 33 else IntKind.bits IntKind.i64)))) (BitVec.ofInt (IntKind.bits IntKind.i64) (Int.fdiv (IntKind.wrap IntKind.i64 (IntKind.wrap IntKind.i64 (Prod.fst (Prod.snd (Prod.snd a0)) * 6364136223846793005) + 1442695040888963407)) (Int.pow 2 (if Int.toNat 45 ≤ IntKind.bits IntKind.i64 then Int.toNat 45 else IntKind.bits IntKind.i64)))))) : Int))) (BitVec.ofInt (IntKind.bits IntKind.i64) 255))) : Int), ()), (Prod.fst a0, Prod.fst (Prod.snd a0), IntKind.wrap IntKind.i64 (IntKind.wrap IntKind.i64 (Prod.fst (Prod.snd (Prod.snd a0)) * 6364136223846793005) + 1442695040888963407), Prod.snd (Prod.snd (Prod.snd a0))), ()))
def F_spec_l1Byte (D:DX)(n:Nat) (a0 : List Int × Int × Int × Unit) : Option ((Int × Unit) × tCur × Unit) := spec_l1Byte_e D n a0
theorem E_spec_l1Byte (D:DX)(n:Nat) (a0 : List Int × Int × Int × Unit) : rfC funcTab D n 156 (a0, ()) = F_spec_l1Byte D n a0 := by kernel_rfl

def spec_l17DrawRight_e (D:DX)(n:Nat) (a0 : List Int × Int × Int × Unit) : Option ((tVal × Unit) × tCur × Unit) := bindD (C_spec_l1Below D a0 4) fun b ↦ bindD (C_spec_l17DrawOf D (Prod.fst (Prod.snd b)) (Prod.fst (Prod.fst b))) fun b ↦ some ((Prod.fst (Prod.fst b), ()), Prod.fst (Prod.snd b), ())
def F_spec_l17DrawRight (D:DX)(n:Nat) (a0 : List Int × Int × Int × Unit) : Option ((tVal × Unit) × tCur × Unit) := spec_l17DrawRight_e D n a0
theorem E_spec_l17DrawRight (D:DX)(n:Nat) (a0 : List Int × Int × Int × Unit) : rfC funcTab D n 157 (a0, ()) = F_spec_l17DrawRight D n a0 := by kernel_rfl

def slices_IndexFunc_impl_Value_impl_Valuex_b0 (D:DX)(n:Nat) (a1 : Clo) (go : tVals → Int → Int → Option ((Int × Unit) × Unit)) (K0 : Int → Option ((Int × Unit) × Unit)) (K1 : Option ((Int × Unit) × Unit)) (x0 : tVals) (x1 : Int) (x2 : Int) : Option ((Int × Unit) × Unit) := br (decide (x2 < x1)) (br (decide (0 ≤ x2) && decide (x2 < (↑(List.length x0) : Int))) (bindD (applyClo ctx D a1 [CapV.val (Ty.pair (Ty.int IntKind.i64) (Ty.pair (Ty.int IntKind.i64) (Ty.pair Ty.str Ty.unit))) (List.getD x0 (Int.toNat x2) (0, 0, ByteArray.empty, ()))] Ty.bool) fun b ↦ br b (K0 x2) (go x0 x1 (IntKind.wrap IntKind.i64 (x2 + 1)))) none) K1
def slices_IndexFunc_impl_Value_impl_Valuex_L0 (D:DX)(n:Nat) (a1 : Clo) (K0 : Int → Option ((Int × Unit) × Unit)) (K1 : Option ((Int × Unit) × Unit)) : Nat → (tVals) → (Int) → (Int) → Option ((Int × Unit) × Unit) | 0 => (fun x0 x1 x2 => none) | m + 1 => (fun x0 x1 x2 => slices_IndexFunc_impl_Value_impl_Valuex_b0 D n a1 (slices_IndexFunc_impl_Value_impl_Valuex_L0 D n a1 K0 K1 m) K0 K1 x0 x1 x2)
def slices_IndexFunc_impl_Value_impl_Valuex_x0_0 (D:DX)(n:Nat) (a1 : Clo) (v0_0 : Int) : Option ((Int × Unit) × Unit) := some ((v0_0, ()), ())
def slices_IndexFunc_impl_Value_impl_Valuex_x0_1 (D:DX)(n:Nat) (a1 : Clo) : Option ((Int × Unit) × Unit) := some ((-1, ()), ())
def slices_IndexFunc_impl_Value_impl_Valuex_LP0 (D:DX)(n:Nat) (a1 : Clo) : (tVals) → (Int) → (Int) → Option ((Int × Unit) × Unit) := (fun x0 x1 x2 => slices_IndexFunc_impl_Value_impl_Valuex_L0 D n a1 (fun v0_0 => slices_IndexFunc_impl_Value_impl_Valuex_x0_0 D n a1 v0_0) (slices_IndexFunc_impl_Value_impl_Valuex_x0_1 D n a1) n x0 x1 x2)
def slices_IndexFunc_impl_Value_impl_Valuex_e (D:DX)(n:Nat) (a1 : Clo) (lp0 : tVals → Int → Int → Option ((Int × Unit) × Unit)) (a0 : tVals) : Option ((Int × Unit) × Unit) := lp0 a0 (↑(List.length a0) : Int) 0
def F_slices_IndexFunc_impl_Value_impl_Valuex (D:DX)(n:Nat) (a0 : tVals) (a1 : Clo) : Option ((Int × Unit) × Unit) := slices_IndexFunc_impl_Value_impl_Valuex_e D n a1 (slices_IndexFunc_impl_Value_impl_Valuex_LP0 D n a1) a0
def slices_IndexFunc_impl_Value_impl_Valuex_Q0 (a1 : Clo) (x0 : tVals) (x1 : Int) (x2 : Int) : St := stq 19 [(0, AV.val (Ty.sl yV) x0), (1, AV.cloV a1), (7, avI x1), (8, avI x2)] [] 
def slices_IndexFunc_impl_Value_impl_Valuex_Q0_0 (a1 : Clo) (v0_0 : Int) : St := stq 19 [(4, avI v0_0)] [] 
def slices_IndexFunc_impl_Value_impl_Valuex_Q0_1 (a1 : Clo) : St := stq 19 [] [] 
theorem slices_IndexFunc_impl_Value_impl_Valuex_SB0 (D:DX)(n:Nat) (a1 : Clo) (m : Nat) (K : Ex → St → Option (Out ctx 158)) (x0 : tVals) (x1 : Int) (x2 : Int) :
  LQ funcTab D n 158 [.r, .l, .r, .l] (m + 1) (slices_IndexFunc_impl_Value_impl_Valuex_Q0 a1 x0 x1 x2) K = slices_IndexFunc_impl_Value_impl_Valuex_b0 D n a1 (fun x0 x1 x2 => LQ funcTab D n 158 [.r, .l, .r, .l] m (slices_IndexFunc_impl_Value_impl_Valuex_Q0 a1 x0 x1 x2) K) (fun v0_0 => K (Ex.ret) (slices_IndexFunc_impl_Value_impl_Valuex_Q0_0 a1 v0_0)) (K (Ex.exit 0) (slices_IndexFunc_impl_Value_impl_Valuex_Q0_1 a1)) x0 x1 x2 := by kernel_rfl
theorem slices_IndexFunc_impl_Value_impl_Valuex_EL0 (D:DX)(n:Nat) (a1 : Clo) (K : Ex → St → Option (Out ctx 158)) : ∀ (m : Nat) (x0 : tVals) (x1 : Int) (x2 : Int), LQ funcTab D n 158 [.r, .l, .r, .l] m (slices_IndexFunc_impl_Value_impl_Valuex_Q0 a1 x0 x1 x2) K = slices_IndexFunc_impl_Value_impl_Valuex_L0 D n a1 (fun v0_0 => K (Ex.ret) (slices_IndexFunc_impl_Value_impl_Valuex_Q0_0 a1 v0_0)) (K (Ex.exit 0) (slices_IndexFunc_impl_Value_impl_Valuex_Q0_1 a1)) m x0 x1 x2
  | 0, x0, x1, x2 => LQ_zero ..
  | m + 1, x0, x1, x2 => by
    have ih : (fun x0 x1 x2 => LQ funcTab D n 158 [.r, .l, .r, .l] m (slices_IndexFunc_impl_Value_impl_Valuex_Q0 a1 x0 x1 x2) K) = slices_IndexFunc_impl_Value_impl_Valuex_L0 D n a1 (fun v0_0 => K (Ex.ret) (slices_IndexFunc_impl_Value_impl_Valuex_Q0_0 a1 v0_0)) (K (Ex.exit 0) (slices_IndexFunc_impl_Value_impl_Valuex_Q0_1 a1)) m := by funext x0 x1 x2; exact slices_IndexFunc_impl_Value_impl_Valuex_EL0 D n a1 K m x0 x1 x2
    rw [slices_IndexFunc_impl_Value_impl_Valuex_SB0]
    rw [ih]; rfl
theorem slices_IndexFunc_impl_Value_impl_Valuex_X0_0 (D:DX)(n:Nat) (a1 : Clo) (v0_0 : Int) :
  (CQ funcTab D n 158 [] [.r, .l, .r, .l] (lastK funcTab 158)) (Ex.ret) (slices_IndexFunc_impl_Value_impl_Valuex_Q0_0 a1 v0_0) = slices_IndexFunc_impl_Value_impl_Valuex_x0_0 D n a1 v0_0 := by kernel_rfl
theorem slices_IndexFunc_impl_Value_impl_Valuex_X0_1 (D:DX)(n:Nat) (a1 : Clo) :
  (CQ funcTab D n 158 [] [.r, .l, .r, .l] (lastK funcTab 158)) (Ex.exit 0) (slices_IndexFunc_impl_Value_impl_Valuex_Q0_1 a1) = slices_IndexFunc_impl_Value_impl_Valuex_x0_1 D n a1 := by kernel_rfl
theorem slices_IndexFunc_impl_Value_impl_Valuex_ELP0 (D:DX)(n:Nat) (a1 : Clo) (x0 : tVals) (x1 : Int) (x2 : Int) :
  LQ funcTab D n 158 [.r, .l, .r, .l] n (slices_IndexFunc_impl_Value_impl_Valuex_Q0 a1 x0 x1 x2) (CQ funcTab D n 158 [] [.r, .l, .r, .l] (lastK funcTab 158)) = slices_IndexFunc_impl_Value_impl_Valuex_LP0 D n a1 x0 x1 x2 := by
  rw [slices_IndexFunc_impl_Value_impl_Valuex_EL0]
  simp only [slices_IndexFunc_impl_Value_impl_Valuex_X0_0, slices_IndexFunc_impl_Value_impl_Valuex_X0_1]
  rfl
theorem E_slices_IndexFunc_impl_Value_impl_Valuex (D:DX)(n:Nat) (a0 : tVals) (a1 : Clo) : rfC funcTab D n 158 (a0, (a1, ())) = F_slices_IndexFunc_impl_Value_impl_Valuex D n a0 a1 := by
  have h : rfC funcTab D n 158 (a0, (a1, ())) = slices_IndexFunc_impl_Value_impl_Valuex_e D n a1 (fun x0 x1 x2 => LQ funcTab D n 158 [.r, .l, .r, .l] n (slices_IndexFunc_impl_Value_impl_Valuex_Q0 a1 x0 x1 x2) (CQ funcTab D n 158 [] [.r, .l, .r, .l] (lastK funcTab 158))) a0 := by kernel_rfl
  rw [h]
  simp only [slices_IndexFunc_impl_Value_impl_Valuex_ELP0]
  rfl

def laws_heldColS_b0 (D:DX)(n:Nat) (go : tCols → Int → Int → Option ((Int × Unit) × Unit)) (K0 : Int → Int → Option ((Int × Unit) × Unit)) (K1 : Int → Option ((Int × Unit) × Unit)) (x0 : tCols) (x1 : Int) (x2 : Int) : Option ((Int × Unit) × Unit) := br (decide (x2 < (↑(List.length x0) : Int))) (br (decide (0 ≤ x2) && decide (x2 < (↑(List.length x0) : Int))) (bindD (C_laws_markText D x1) fun b ↦ br (!List.beq (ByteArray.toList (Prod.fst (List.getD x0 (Int.toNat x2) (ByteArray.empty, 0, false, ())))) (ByteArray.toList (Prod.fst (Prod.fst b)))) (K0 x1 (-1)) (br (decide (0 ≤ x2) && decide (x2 < (↑(List.length x0) : Int))) (br (Prod.fst (Prod.snd (List.getD x0 (Int.toNat x2) (ByteArray.empty, 0, false, ()))) != IntKind.wrap IntKind.i64 (x1 + 1)) (K0 (IntKind.wrap IntKind.i64 (x1 + 1)) (-1)) (br (decide (0 ≤ x2) && decide (x2 < (↑(List.length x0) : Int))) (br (!decide (Prod.fst (Prod.snd (Prod.snd (List.getD x0 (Int.toNat x2) (ByteArray.empty, 0, false, ())))) = decide (Int.tmod (IntKind.wrap IntKind.i64 (IntKind.wrap IntKind.i64 (x1 + 1) + 1)) 3 = 0))) (K0 (IntKind.wrap IntKind.i64 (IntKind.wrap IntKind.i64 (x1 + 1) + 1)) (-1)) (go x0 (IntKind.wrap IntKind.i64 (IntKind.wrap IntKind.i64 (IntKind.wrap IntKind.i64 (x1 + 1) + 1) + 1)) (IntKind.wrap IntKind.i64 (x2 + 1)))) none)) none)) none) (K1 x1)
def laws_heldColS_L0 (D:DX)(n:Nat) (K0 : Int → Int → Option ((Int × Unit) × Unit)) (K1 : Int → Option ((Int × Unit) × Unit)) : Nat → (tCols) → (Int) → (Int) → Option ((Int × Unit) × Unit) | 0 => (fun x0 x1 x2 => none) | m + 1 => (fun x0 x1 x2 => laws_heldColS_b0 D n (laws_heldColS_L0 D n K0 K1 m) K0 K1 x0 x1 x2)
def laws_heldColS_x0_0 (D:DX)(n:Nat) (v0_0 : Int) (v0_1 : Int) : Option ((Int × Unit) × Unit) := some ((v0_1, ()), ())
def laws_heldColS_x0_1 (D:DX)(n:Nat) (v1_0 : Int) : Option ((Int × Unit) × Unit) := some ((v1_0, ()), ())
def laws_heldColS_LP0 (D:DX)(n:Nat) : (tCols) → (Int) → (Int) → Option ((Int × Unit) × Unit) := (fun x0 x1 x2 => laws_heldColS_L0 D n (fun v0_0 v0_1 => laws_heldColS_x0_0 D n v0_0 v0_1) (fun v1_0 => laws_heldColS_x0_1 D n v1_0) n x0 x1 x2)
def laws_heldColS_e (D:DX)(n:Nat) (lp0 : tCols → Int → Int → Option ((Int × Unit) × Unit)) (a0 : tCols) (a1 : Int) : Option ((Int × Unit) × Unit) := lp0 a0 a1 0
def F_laws_heldColS (D:DX)(n:Nat) (a0 : tCols) (a1 : Int) : Option ((Int × Unit) × Unit) := laws_heldColS_e D n (laws_heldColS_LP0 D n) a0 a1
def laws_heldColS_Q0 (x0 : tCols) (x1 : Int) (x2 : Int) : St := stq 43 [(0, AV.val (Ty.sl yC) x0), (1, avI x1), (5, avI x2)] [] 
def laws_heldColS_Q0_0 (v0_0 : Int) (v0_1 : Int) : St := stq 43 [(1, avI v0_0), (4, avI v0_1)] [] 
def laws_heldColS_Q0_1 (v1_0 : Int) : St := stq 43 [(1, avI v1_0)] [] 
theorem laws_heldColS_SB0 (D:DX)(n:Nat) (m : Nat) (K : Ex → St → Option (Out ctx 178)) (x0 : tCols) (x1 : Int) (x2 : Int) :
  LQ funcTab D n 178 [.r, .l, .r, .l] (m + 1) (laws_heldColS_Q0 x0 x1 x2) K = laws_heldColS_b0 D n (fun x0 x1 x2 => LQ funcTab D n 178 [.r, .l, .r, .l] m (laws_heldColS_Q0 x0 x1 x2) K) (fun v0_0 v0_1 => K (Ex.ret) (laws_heldColS_Q0_0 v0_0 v0_1)) (fun v1_0 => K (Ex.exit 0) (laws_heldColS_Q0_1 v1_0)) x0 x1 x2 := by kernel_rfl
theorem laws_heldColS_EL0 (D:DX)(n:Nat) (K : Ex → St → Option (Out ctx 178)) : ∀ (m : Nat) (x0 : tCols) (x1 : Int) (x2 : Int), LQ funcTab D n 178 [.r, .l, .r, .l] m (laws_heldColS_Q0 x0 x1 x2) K = laws_heldColS_L0 D n (fun v0_0 v0_1 => K (Ex.ret) (laws_heldColS_Q0_0 v0_0 v0_1)) (fun v1_0 => K (Ex.exit 0) (laws_heldColS_Q0_1 v1_0)) m x0 x1 x2
  | 0, x0, x1, x2 => LQ_zero ..
  | m + 1, x0, x1, x2 => by
    have ih : (fun x0 x1 x2 => LQ funcTab D n 178 [.r, .l, .r, .l] m (laws_heldColS_Q0 x0 x1 x2) K) = laws_heldColS_L0 D n (fun v0_0 v0_1 => K (Ex.ret) (laws_heldColS_Q0_0 v0_0 v0_1)) (fun v1_0 => K (Ex.exit 0) (laws_heldColS_Q0_1 v1_0)) m := by funext x0 x1 x2; exact laws_heldColS_EL0 D n K m x0 x1 x2
    rw [laws_heldColS_SB0]
    rw [ih]; rfl
theorem laws_heldColS_X0_0 (D:DX)(n:Nat) (v0_0 : Int) (v0_1 : Int) :
  (CQ funcTab D n 178 [] [.r, .l, .r, .l] (lastK funcTab 178)) (Ex.ret) (laws_heldColS_Q0_0 v0_0 v0_1) = laws_heldColS_x0_0 D n v0_0 v0_1 := by kernel_rfl
theorem laws_heldColS_X0_1 (D:DX)(n:Nat) (v1_0 : Int) :
  (CQ funcTab D n 178 [] [.r, .l, .r, .l] (lastK funcTab 178)) (Ex.exit 0) (laws_heldColS_Q0_1 v1_0) = laws_heldColS_x0_1 D n v1_0 := by kernel_rfl
theorem laws_heldColS_ELP0 (D:DX)(n:Nat) (x0 : tCols) (x1 : Int) (x2 : Int) :
  LQ funcTab D n 178 [.r, .l, .r, .l] n (laws_heldColS_Q0 x0 x1 x2) (CQ funcTab D n 178 [] [.r, .l, .r, .l] (lastK funcTab 178)) = laws_heldColS_LP0 D n x0 x1 x2 := by
  rw [laws_heldColS_EL0]
  simp only [laws_heldColS_X0_0, laws_heldColS_X0_1]
  rfl
theorem E_laws_heldColS (D:DX)(n:Nat) (a0 : tCols) (a1 : Int) : rfC funcTab D n 178 (a0, (a1, ())) = F_laws_heldColS D n a0 a1 := by
  have h : rfC funcTab D n 178 (a0, (a1, ())) = laws_heldColS_e D n (fun x0 x1 x2 => LQ funcTab D n 178 [.r, .l, .r, .l] n (laws_heldColS_Q0 x0 x1 x2) (CQ funcTab D n 178 [] [.r, .l, .r, .l] (lastK funcTab 178))) a0 a1 := by kernel_rfl
  rw [h]
  simp only [laws_heldColS_ELP0]
  rfl

def laws_heldIntS_b0 (D:DX)(n:Nat) (go : List Int → Int → Int → Option ((Int × Unit) × Unit)) (K0 : Int → Int → Option ((Int × Unit) × Unit)) (K1 : Int → Option ((Int × Unit) × Unit)) (x0 : List Int) (x1 : Int) (x2 : Int) : Option ((Int × Unit) × Unit) := br (decide (x2 < (↑(List.length x0) : Int))) (br (decide (0 ≤ x2) && decide (x2 < (↑(List.length x0) : Int))) (br (List.getD x0 (Int.toNat x2) 0 != x1) (K0 x1 (-1)) (go x0 (IntKind.wrap IntKind.i64 (x1 + 1)) (IntKind.wrap IntKind.i64 (x2 + 1)))) none) (K1 x1)
def laws_heldIntS_L0 (D:DX)(n:Nat) (K0 : Int → Int → Option ((Int × Unit) × Unit)) (K1 : Int → Option ((Int × Unit) × Unit)) : Nat → (List Int) → (Int) → (Int) → Option ((Int × Unit) × Unit) | 0 => (fun x0 x1 x2 => none) | m + 1 => (fun x0 x1 x2 => laws_heldIntS_b0 D n (laws_heldIntS_L0 D n K0 K1 m) K0 K1 x0 x1 x2)
def laws_heldIntS_x0_0 (D:DX)(n:Nat) (v0_0 : Int) (v0_1 : Int) : Option ((Int × Unit) × Unit) := some ((v0_1, ()), ())
def laws_heldIntS_x0_1 (D:DX)(n:Nat) (v1_0 : Int) : Option ((Int × Unit) × Unit) := some ((v1_0, ()), ())
def laws_heldIntS_LP0 (D:DX)(n:Nat) : (List Int) → (Int) → (Int) → Option ((Int × Unit) × Unit) := (fun x0 x1 x2 => laws_heldIntS_L0 D n (fun v0_0 v0_1 => laws_heldIntS_x0_0 D n v0_0 v0_1) (fun v1_0 => laws_heldIntS_x0_1 D n v1_0) n x0 x1 x2)
def laws_heldIntS_e (D:DX)(n:Nat) (lp0 : List Int → Int → Int → Option ((Int × Unit) × Unit)) (a0 : List Int) (a1 : Int) : Option ((Int × Unit) × Unit) := lp0 a0 a1 0
def F_laws_heldIntS (D:DX)(n:Nat) (a0 : List Int) (a1 : Int) : Option ((Int × Unit) × Unit) := laws_heldIntS_e D n (laws_heldIntS_LP0 D n) a0 a1
def laws_heldIntS_Q0 (x0 : List Int) (x1 : Int) (x2 : Int) : St := stq 21 [(0, AV.val (Ty.sl yI) x0), (1, avI x1), (5, avI x2)] [] 
def laws_heldIntS_Q0_0 (v0_0 : Int) (v0_1 : Int) : St := stq 21 [(1, avI v0_0), (4, avI v0_1)] [] 
def laws_heldIntS_Q0_1 (v1_0 : Int) : St := stq 21 [(1, avI v1_0)] [] 
theorem laws_heldIntS_SB0 (D:DX)(n:Nat) (m : Nat) (K : Ex → St → Option (Out ctx 179)) (x0 : List Int) (x1 : Int) (x2 : Int) :
  LQ funcTab D n 179 [.r, .l, .r, .l] (m + 1) (laws_heldIntS_Q0 x0 x1 x2) K = laws_heldIntS_b0 D n (fun x0 x1 x2 => LQ funcTab D n 179 [.r, .l, .r, .l] m (laws_heldIntS_Q0 x0 x1 x2) K) (fun v0_0 v0_1 => K (Ex.ret) (laws_heldIntS_Q0_0 v0_0 v0_1)) (fun v1_0 => K (Ex.exit 0) (laws_heldIntS_Q0_1 v1_0)) x0 x1 x2 := by kernel_rfl
theorem laws_heldIntS_EL0 (D:DX)(n:Nat) (K : Ex → St → Option (Out ctx 179)) : ∀ (m : Nat) (x0 : List Int) (x1 : Int) (x2 : Int), LQ funcTab D n 179 [.r, .l, .r, .l] m (laws_heldIntS_Q0 x0 x1 x2) K = laws_heldIntS_L0 D n (fun v0_0 v0_1 => K (Ex.ret) (laws_heldIntS_Q0_0 v0_0 v0_1)) (fun v1_0 => K (Ex.exit 0) (laws_heldIntS_Q0_1 v1_0)) m x0 x1 x2
  | 0, x0, x1, x2 => LQ_zero ..
  | m + 1, x0, x1, x2 => by
    have ih : (fun x0 x1 x2 => LQ funcTab D n 179 [.r, .l, .r, .l] m (laws_heldIntS_Q0 x0 x1 x2) K) = laws_heldIntS_L0 D n (fun v0_0 v0_1 => K (Ex.ret) (laws_heldIntS_Q0_0 v0_0 v0_1)) (fun v1_0 => K (Ex.exit 0) (laws_heldIntS_Q0_1 v1_0)) m := by funext x0 x1 x2; exact laws_heldIntS_EL0 D n K m x0 x1 x2
    rw [laws_heldIntS_SB0]
    rw [ih]; rfl
theorem laws_heldIntS_X0_0 (D:DX)(n:Nat) (v0_0 : Int) (v0_1 : Int) :
  (CQ funcTab D n 179 [] [.r, .l, .r, .l] (lastK funcTab 179)) (Ex.ret) (laws_heldIntS_Q0_0 v0_0 v0_1) = laws_heldIntS_x0_0 D n v0_0 v0_1 := by kernel_rfl
theorem laws_heldIntS_X0_1 (D:DX)(n:Nat) (v1_0 : Int) :
  (CQ funcTab D n 179 [] [.r, .l, .r, .l] (lastK funcTab 179)) (Ex.exit 0) (laws_heldIntS_Q0_1 v1_0) = laws_heldIntS_x0_1 D n v1_0 := by kernel_rfl
theorem laws_heldIntS_ELP0 (D:DX)(n:Nat) (x0 : List Int) (x1 : Int) (x2 : Int) :
  LQ funcTab D n 179 [.r, .l, .r, .l] n (laws_heldIntS_Q0 x0 x1 x2) (CQ funcTab D n 179 [] [.r, .l, .r, .l] (lastK funcTab 179)) = laws_heldIntS_LP0 D n x0 x1 x2 := by
  rw [laws_heldIntS_EL0]
  simp only [laws_heldIntS_X0_0, laws_heldIntS_X0_1]
  rfl
theorem E_laws_heldIntS (D:DX)(n:Nat) (a0 : List Int) (a1 : Int) : rfC funcTab D n 179 (a0, (a1, ())) = F_laws_heldIntS D n a0 a1 := by
  have h : rfC funcTab D n 179 (a0, (a1, ())) = laws_heldIntS_e D n (fun x0 x1 x2 => LQ funcTab D n 179 [.r, .l, .r, .l] n (laws_heldIntS_Q0 x0 x1 x2) (CQ funcTab D n 179 [] [.r, .l, .r, .l] (lastK funcTab 179))) a0 a1 := by kernel_rfl
  rw [h]
  simp only [laws_heldIntS_ELP0]
  rfl

def laws_heldIndexS_b0 (D:DX)(n:Nat) (go : tIxs → Int → Int → Option ((Int × Unit) × Unit)) (K0 : Int → Int → Option ((Int × Unit) × Unit)) (K1 : Int → Option ((Int × Unit) × Unit)) (x0 : tIxs) (x1 : Int) (x2 : Int) : Option ((Int × Unit) × Unit) := br (decide (x2 < (↑(List.length x0) : Int))) (br (decide (0 ≤ x2) && decide (x2 < (↑(List.length x0) : Int))) (bindD (C_laws_markText D x1) fun b ↦ br (!List.beq (ByteArray.toList (Prod.fst (List.getD x0 (Int.toNat x2) (ByteArray.empty, [], false, ())))) (ByteArray.toList (Prod.fst (Prod.fst b)))) (K0 x1 (-1)) (br (decide (0 ≤ x2) && decide (x2 < (↑(List.length x0) : Int))) (bindD (C_laws_heldIntS D (Prod.fst (Prod.snd (List.getD x0 (Int.toNat x2) (ByteArray.empty, [], false, ())))) (IntKind.wrap IntKind.i64 (x1 + 1))) fun b ↦ br (decide (Prod.fst (Prod.fst b) < 0)) (K0 (Prod.fst (Prod.fst b)) (-1)) (br (decide (0 ≤ x2) && decide (x2 < (↑(List.length x0) : Int))) (br (!decide (Prod.fst (Prod.snd (Prod.snd (List.getD x0 (Int.toNat x2) (ByteArray.empty, [], false, ())))) = decide (Int.tmod (Prod.fst (Prod.fst b)) 3 = 0))) (K0 (Prod.fst (Prod.fst b)) (-1)) (go x0 (IntKind.wrap IntKind.i64 (Prod.fst (Prod.fst b) + 1)) (IntKind.wrap IntKind.i64 (x2 + 1)))) none)) none)) none) (K1 x1)
def laws_heldIndexS_L0 (D:DX)(n:Nat) (K0 : Int → Int → Option ((Int × Unit) × Unit)) (K1 : Int → Option ((Int × Unit) × Unit)) : Nat → (tIxs) → (Int) → (Int) → Option ((Int × Unit) × Unit) | 0 => (fun x0 x1 x2 => none) | m + 1 => (fun x0 x1 x2 => laws_heldIndexS_b0 D n (laws_heldIndexS_L0 D n K0 K1 m) K0 K1 x0 x1 x2)
def laws_heldIndexS_x0_0 (D:DX)(n:Nat) (v0_0 : Int) (v0_1 : Int) : Option ((Int × Unit) × Unit) := some ((v0_1, ()), ())
def laws_heldIndexS_x0_1 (D:DX)(n:Nat) (v1_0 : Int) : Option ((Int × Unit) × Unit) := some ((v1_0, ()), ())
def laws_heldIndexS_LP0 (D:DX)(n:Nat) : (tIxs) → (Int) → (Int) → Option ((Int × Unit) × Unit) := (fun x0 x1 x2 => laws_heldIndexS_L0 D n (fun v0_0 v0_1 => laws_heldIndexS_x0_0 D n v0_0 v0_1) (fun v1_0 => laws_heldIndexS_x0_1 D n v1_0) n x0 x1 x2)
def laws_heldIndexS_e (D:DX)(n:Nat) (lp0 : tIxs → Int → Int → Option ((Int × Unit) × Unit)) (a0 : tIxs) (a1 : Int) : Option ((Int × Unit) × Unit) := lp0 a0 a1 0
def F_laws_heldIndexS (D:DX)(n:Nat) (a0 : tIxs) (a1 : Int) : Option ((Int × Unit) × Unit) := laws_heldIndexS_e D n (laws_heldIndexS_LP0 D n) a0 a1
def laws_heldIndexS_Q0 (x0 : tIxs) (x1 : Int) (x2 : Int) : St := stq 43 [(0, AV.val (Ty.sl yX) x0), (1, avI x1), (5, avI x2)] [] 
def laws_heldIndexS_Q0_0 (v0_0 : Int) (v0_1 : Int) : St := stq 43 [(1, avI v0_0), (4, avI v0_1)] [] 
def laws_heldIndexS_Q0_1 (v1_0 : Int) : St := stq 43 [(1, avI v1_0)] [] 
theorem laws_heldIndexS_SB0 (D:DX)(n:Nat) (m : Nat) (K : Ex → St → Option (Out ctx 180)) (x0 : tIxs) (x1 : Int) (x2 : Int) :
  LQ funcTab D n 180 [.r, .l, .r, .l] (m + 1) (laws_heldIndexS_Q0 x0 x1 x2) K = laws_heldIndexS_b0 D n (fun x0 x1 x2 => LQ funcTab D n 180 [.r, .l, .r, .l] m (laws_heldIndexS_Q0 x0 x1 x2) K) (fun v0_0 v0_1 => K (Ex.ret) (laws_heldIndexS_Q0_0 v0_0 v0_1)) (fun v1_0 => K (Ex.exit 0) (laws_heldIndexS_Q0_1 v1_0)) x0 x1 x2 := by kernel_rfl
theorem laws_heldIndexS_EL0 (D:DX)(n:Nat) (K : Ex → St → Option (Out ctx 180)) : ∀ (m : Nat) (x0 : tIxs) (x1 : Int) (x2 : Int), LQ funcTab D n 180 [.r, .l, .r, .l] m (laws_heldIndexS_Q0 x0 x1 x2) K = laws_heldIndexS_L0 D n (fun v0_0 v0_1 => K (Ex.ret) (laws_heldIndexS_Q0_0 v0_0 v0_1)) (fun v1_0 => K (Ex.exit 0) (laws_heldIndexS_Q0_1 v1_0)) m x0 x1 x2
  | 0, x0, x1, x2 => LQ_zero ..
  | m + 1, x0, x1, x2 => by
    have ih : (fun x0 x1 x2 => LQ funcTab D n 180 [.r, .l, .r, .l] m (laws_heldIndexS_Q0 x0 x1 x2) K) = laws_heldIndexS_L0 D n (fun v0_0 v0_1 => K (Ex.ret) (laws_heldIndexS_Q0_0 v0_0 v0_1)) (fun v1_0 => K (Ex.exit 0) (laws_heldIndexS_Q0_1 v1_0)) m := by funext x0 x1 x2; exact laws_heldIndexS_EL0 D n K m x0 x1 x2
    rw [laws_heldIndexS_SB0]
    rw [ih]; rfl
theorem laws_heldIndexS_X0_0 (D:DX)(n:Nat) (v0_0 : Int) (v0_1 : Int) :
  (CQ funcTab D n 180 [] [.r, .l, .r, .l] (lastK funcTab 180)) (Ex.ret) (laws_heldIndexS_Q0_0 v0_0 v0_1) = laws_heldIndexS_x0_0 D n v0_0 v0_1 := by kernel_rfl
theorem laws_heldIndexS_X0_1 (D:DX)(n:Nat) (v1_0 : Int) :
  (CQ funcTab D n 180 [] [.r, .l, .r, .l] (lastK funcTab 180)) (Ex.exit 0) (laws_heldIndexS_Q0_1 v1_0) = laws_heldIndexS_x0_1 D n v1_0 := by kernel_rfl
theorem laws_heldIndexS_ELP0 (D:DX)(n:Nat) (x0 : tIxs) (x1 : Int) (x2 : Int) :
  LQ funcTab D n 180 [.r, .l, .r, .l] n (laws_heldIndexS_Q0 x0 x1 x2) (CQ funcTab D n 180 [] [.r, .l, .r, .l] (lastK funcTab 180)) = laws_heldIndexS_LP0 D n x0 x1 x2 := by
  rw [laws_heldIndexS_EL0]
  simp only [laws_heldIndexS_X0_0, laws_heldIndexS_X0_1]
  rfl
theorem E_laws_heldIndexS (D:DX)(n:Nat) (a0 : tIxs) (a1 : Int) : rfC funcTab D n 180 (a0, (a1, ())) = F_laws_heldIndexS D n a0 a1 := by
  have h : rfC funcTab D n 180 (a0, (a1, ())) = laws_heldIndexS_e D n (fun x0 x1 x2 => LQ funcTab D n 180 [.r, .l, .r, .l] n (laws_heldIndexS_Q0 x0 x1 x2) (CQ funcTab D n 180 [] [.r, .l, .r, .l] (lastK funcTab 180))) a0 a1 := by kernel_rfl
  rw [h]
  simp only [laws_heldIndexS_ELP0]
  rfl

def slices_Index_int_int_b0 (D:DX)(n:Nat) (go : List Int → Int → Int → Int → Option ((Int × Unit) × Unit)) (K0 : Int → Option ((Int × Unit) × Unit)) (K1 : Option ((Int × Unit) × Unit)) (x0 : List Int) (x1 : Int) (x2 : Int) (x3 : Int) : Option ((Int × Unit) × Unit) := br (decide (x3 < x2)) (br (decide (0 ≤ x3) && decide (x3 < (↑(List.length x0) : Int))) (br (decide (x1 = List.getD x0 (Int.toNat x3) 0)) (K0 x3) (go x0 x1 x2 (IntKind.wrap IntKind.i64 (x3 + 1)))) none) K1
def slices_Index_int_int_L0 (D:DX)(n:Nat) (K0 : Int → Option ((Int × Unit) × Unit)) (K1 : Option ((Int × Unit) × Unit)) : Nat → (List Int) → (Int) → (Int) → (Int) → Option ((Int × Unit) × Unit) | 0 => (fun x0 x1 x2 x3 => none) | m + 1 => (fun x0 x1 x2 x3 => slices_Index_int_int_b0 D n (slices_Index_int_int_L0 D n K0 K1 m) K0 K1 x0 x1 x2 x3)
def slices_Index_int_int_x0_0 (D:DX)(n:Nat) (v0_0 : Int) : Option ((Int × Unit) × Unit) := some ((v0_0, ()), ())
def slices_Index_int_int_x0_1 (D:DX)(n:Nat) : Option ((Int × Unit) × Unit) := some ((-1, ()), ())
def slices_Index_int_int_LP0 (D:DX)(n:Nat) : (List Int) → (Int) → (Int) → (Int) → Option ((Int × Unit) × Unit) := (fun x0 x1 x2 x3 => slices_Index_int_int_L0 D n (fun v0_0 => slices_Index_int_int_x0_0 D n v0_0) (slices_Index_int_int_x0_1 D n) n x0 x1 x2 x3)
def slices_Index_int_int_e (D:DX)(n:Nat) (lp0 : List Int → Int → Int → Int → Option ((Int × Unit) × Unit)) (a0 : List Int) (a1 : Int) : Option ((Int × Unit) × Unit) := lp0 a0 a1 (↑(List.length a0) : Int) 0
def F_slices_Index_int_int (D:DX)(n:Nat) (a0 : List Int) (a1 : Int) : Option ((Int × Unit) × Unit) := slices_Index_int_int_e D n (slices_Index_int_int_LP0 D n) a0 a1
def slices_Index_int_int_Q0 (x0 : List Int) (x1 : Int) (x2 : Int) (x3 : Int) : St := stq 19 [(0, AV.val (Ty.sl yI) x0), (1, avI x1), (7, avI x2), (8, avI x3)] [] 
def slices_Index_int_int_Q0_0 (v0_0 : Int) : St := stq 19 [(4, avI v0_0)] [] 
def slices_Index_int_int_Q0_1 : St := stq 19 [] [] 
theorem slices_Index_int_int_SB0 (D:DX)(n:Nat) (m : Nat) (K : Ex → St → Option (Out ctx 186)) (x0 : List Int) (x1 : Int) (x2 : Int) (x3 : Int) :
  LQ funcTab D n 186 [.r, .l, .r, .l] (m + 1) (slices_Index_int_int_Q0 x0 x1 x2 x3) K = slices_Index_int_int_b0 D n (fun x0 x1 x2 x3 => LQ funcTab D n 186 [.r, .l, .r, .l] m (slices_Index_int_int_Q0 x0 x1 x2 x3) K) (fun v0_0 => K (Ex.ret) (slices_Index_int_int_Q0_0 v0_0)) (K (Ex.exit 0) (slices_Index_int_int_Q0_1)) x0 x1 x2 x3 := by kernel_rfl
theorem slices_Index_int_int_EL0 (D:DX)(n:Nat) (K : Ex → St → Option (Out ctx 186)) : ∀ (m : Nat) (x0 : List Int) (x1 : Int) (x2 : Int) (x3 : Int), LQ funcTab D n 186 [.r, .l, .r, .l] m (slices_Index_int_int_Q0 x0 x1 x2 x3) K = slices_Index_int_int_L0 D n (fun v0_0 => K (Ex.ret) (slices_Index_int_int_Q0_0 v0_0)) (K (Ex.exit 0) (slices_Index_int_int_Q0_1)) m x0 x1 x2 x3
  | 0, x0, x1, x2, x3 => LQ_zero ..
  | m + 1, x0, x1, x2, x3 => by
    have ih : (fun x0 x1 x2 x3 => LQ funcTab D n 186 [.r, .l, .r, .l] m (slices_Index_int_int_Q0 x0 x1 x2 x3) K) = slices_Index_int_int_L0 D n (fun v0_0 => K (Ex.ret) (slices_Index_int_int_Q0_0 v0_0)) (K (Ex.exit 0) (slices_Index_int_int_Q0_1)) m := by funext x0 x1 x2 x3; exact slices_Index_int_int_EL0 D n K m x0 x1 x2 x3
    rw [slices_Index_int_int_SB0]
    rw [ih]; rfl
theorem slices_Index_int_int_X0_0 (D:DX)(n:Nat) (v0_0 : Int) :
  (CQ funcTab D n 186 [] [.r, .l, .r, .l] (lastK funcTab 186)) (Ex.ret) (slices_Index_int_int_Q0_0 v0_0) = slices_Index_int_int_x0_0 D n v0_0 := by kernel_rfl
theorem slices_Index_int_int_X0_1 (D:DX)(n:Nat) :
  (CQ funcTab D n 186 [] [.r, .l, .r, .l] (lastK funcTab 186)) (Ex.exit 0) (slices_Index_int_int_Q0_1) = slices_Index_int_int_x0_1 D n := by kernel_rfl
theorem slices_Index_int_int_ELP0 (D:DX)(n:Nat) (x0 : List Int) (x1 : Int) (x2 : Int) (x3 : Int) :
  LQ funcTab D n 186 [.r, .l, .r, .l] n (slices_Index_int_int_Q0 x0 x1 x2 x3) (CQ funcTab D n 186 [] [.r, .l, .r, .l] (lastK funcTab 186)) = slices_Index_int_int_LP0 D n x0 x1 x2 x3 := by
  rw [slices_Index_int_int_EL0]
  simp only [slices_Index_int_int_X0_0, slices_Index_int_int_X0_1]
  rfl
theorem E_slices_Index_int_int (D:DX)(n:Nat) (a0 : List Int) (a1 : Int) : rfC funcTab D n 186 (a0, (a1, ())) = F_slices_Index_int_int D n a0 a1 := by
  have h : rfC funcTab D n 186 (a0, (a1, ())) = slices_Index_int_int_e D n (fun x0 x1 x2 x3 => LQ funcTab D n 186 [.r, .l, .r, .l] n (slices_Index_int_int_Q0 x0 x1 x2 x3) (CQ funcTab D n 186 [] [.r, .l, .r, .l] (lastK funcTab 186))) a0 a1 := by kernel_rfl
  rw [h]
  simp only [slices_Index_int_int_ELP0]
  rfl
end
end Go.G

namespace Go.G
set_option maxRecDepth 100000
open Go Go.V Go.Proofs
def XOk (X : Ext) : Prop := ∀ k : Nat, (Nat.beq k 132 || Nat.beq k 184) = false → X.is k = false
theorem noExt_ok : XOk noExt := fun _ _ => rfl
theorem S_laws_FnSchemas {X : Ext} (hX : XOk X) (n : Nat) (a0 : List Int) : C_laws_FnSchemas (DD X (n + 1)) a0 = F_laws_FnSchemas (DD X n) n a0 := (DD_succ X Try.func4 (by kernel_rfl) (hX 4 rfl) n _).trans (E_laws_FnSchemas ..)
theorem S_laws_szSchema {X : Ext} (hX : XOk X) (n : Nat) (a0 : tSch) (a1 : Int) : C_laws_szSchema (DD X (n + 1)) a0 a1 = F_laws_szSchema (DD X n) n a0 a1 := (DD_succ X Try.func15 (by kernel_rfl) (hX 15 rfl) n _).trans (E_laws_szSchema ..)
theorem S_spec_SchemaOk {X : Ext} (hX : XOk X) (n : Nat) (a0 : tSch) : C_spec_SchemaOk (DD X (n + 1)) a0 = F_spec_SchemaOk (DD X n) n a0 := (DD_succ X Try.func16 (by kernel_rfl) (hX 16 rfl) n _).trans (E_spec_SchemaOk ..)
theorem S_laws_toSchema {X : Ext} (hX : XOk X) (n : Nat) (a0 : tSch) : C_laws_toSchema (DD X (n + 1)) a0 = F_laws_toSchema (DD X n) n a0 := (DD_succ X Try.func17 (by kernel_rfl) (hX 17 rfl) n _).trans (E_laws_toSchema ..)
theorem S_impl_SchemaOk {X : Ext} (hX : XOk X) (n : Nat) (a0 : tSch) : C_impl_SchemaOk (DD X (n + 1)) a0 = F_impl_SchemaOk (DD X n) n a0 := (DD_succ X Try.func18 (by kernel_rfl) (hX 18 rfl) n _).trans (E_impl_SchemaOk ..)
theorem S_laws_eqSchema {X : Ext} (hX : XOk X) (n : Nat) (a0 : tSch) (a1 : tSch) : C_laws_eqSchema (DD X (n + 1)) a0 a1 = F_laws_eqSchema (DD X n) n a0 a1 := (DD_succ X Try.func19 (by kernel_rfl) (hX 19 rfl) n _).trans (E_laws_eqSchema ..)
theorem S_laws_big {X : Ext} (hX : XOk X) (n : Nat) (a0 : List Int) : C_laws_big (DD X (n + 1)) a0 = F_laws_big (DD X n) n a0 := (DD_succ X Try.func20 (by kernel_rfl) (hX 20 rfl) n _).trans (E_laws_big ..)
theorem S_spec_DrawRowOk {X : Ext} (hX : XOk X) (n : Nat) (a0 : List Int) : C_spec_DrawRowOk (DD X (n + 1)) a0 = F_spec_DrawRowOk (DD X n) n a0 := (DD_succ X Try.func21 (by kernel_rfl) (hX 21 rfl) n _).trans (E_spec_DrawRowOk ..)
theorem S_spec_DrawSchemaOk {X : Ext} (hX : XOk X) (n : Nat) (a0 : List Int) : C_spec_DrawSchemaOk (DD X (n + 1)) a0 = F_spec_DrawSchemaOk (DD X n) n a0 := (DD_succ X Try.func22 (by kernel_rfl) (hX 22 rfl) n _).trans (E_spec_DrawSchemaOk ..)
theorem S_spec_DrawColNameOk {X : Ext} (hX : XOk X) (n : Nat) (a0 : List Int) : C_spec_DrawColNameOk (DD X (n + 1)) a0 = F_spec_DrawColNameOk (DD X n) n a0 := (DD_succ X Try.func23 (by kernel_rfl) (hX 23 rfl) n _).trans (E_spec_DrawColNameOk ..)
theorem S_spec_DrawColAt {X : Ext} (hX : XOk X) (n : Nat) (a0 : List Int) : C_spec_DrawColAt (DD X (n + 1)) a0 = F_spec_DrawColAt (DD X n) n a0 := (DD_succ X Try.func24 (by kernel_rfl) (hX 24 rfl) n _).trans (E_spec_DrawColAt ..)
theorem S_spec_DrawKeyOfRow {X : Ext} (hX : XOk X) (n : Nat) (a0 : List Int) : C_spec_DrawKeyOfRow (DD X (n + 1)) a0 = F_spec_DrawKeyOfRow (DD X n) n a0 := (DD_succ X Try.func25 (by kernel_rfl) (hX 25 rfl) n _).trans (E_spec_DrawKeyOfRow ..)
theorem S_impl_RowOk {X : Ext} (hX : XOk X) (n : Nat) (a0 : tSch) (a1 : tVals) : C_impl_RowOk (DD X (n + 1)) a0 a1 = F_impl_RowOk (DD X n) n a0 a1 := (DD_succ X Try.func26 (by kernel_rfl) (hX 26 rfl) n _).trans (E_impl_RowOk ..)
theorem S_spec_RowOk {X : Ext} (hX : XOk X) (n : Nat) (a0 : tSch) (a1 : tVals) : C_spec_RowOk (DD X (n + 1)) a0 a1 = F_spec_RowOk (DD X n) n a0 a1 := (DD_succ X Try.func27 (by kernel_rfl) (hX 27 rfl) n _).trans (E_spec_RowOk ..)
theorem S_impl_ColNameOk {X : Ext} (hX : XOk X) (n : Nat) (a0 : ByteArray) : C_impl_ColNameOk (DD X (n + 1)) a0 = F_impl_ColNameOk (DD X n) n a0 := (DD_succ X Try.func28 (by kernel_rfl) (hX 28 rfl) n _).trans (E_impl_ColNameOk ..)
theorem S_spec_ColNameOk {X : Ext} (hX : XOk X) (n : Nat) (a0 : ByteArray) : C_spec_ColNameOk (DD X (n + 1)) a0 = F_spec_ColNameOk (DD X n) n a0 := (DD_succ X Try.func29 (by kernel_rfl) (hX 29 rfl) n _).trans (E_spec_ColNameOk ..)
theorem S_impl_ColAt {X : Ext} (hX : XOk X) (n : Nat) (a0 : tSch) (a1 : ByteArray) : C_impl_ColAt (DD X (n + 1)) a0 a1 = F_impl_ColAt (DD X n) n a0 a1 := (DD_succ X Try.func30 (by kernel_rfl) (hX 30 rfl) n _).trans (E_impl_ColAt ..)
theorem S_spec_ColAt {X : Ext} (hX : XOk X) (n : Nat) (a0 : tSch) (a1 : ByteArray) : C_spec_ColAt (DD X (n + 1)) a0 a1 = F_spec_ColAt (DD X n) n a0 a1 := (DD_succ X Try.func31 (by kernel_rfl) (hX 31 rfl) n _).trans (E_spec_ColAt ..)
theorem S_laws_sameTuple {X : Ext} (hX : XOk X) (n : Nat) (a0 : tVals) (a1 : tVals) : C_laws_sameTuple (DD X (n + 1)) a0 a1 = F_laws_sameTuple (DD X n) n a0 a1 := (DD_succ X Try.func32 (by kernel_rfl) (hX 32 rfl) n _).trans (E_laws_sameTuple ..)
theorem S_impl_KeyOfRow {X : Ext} (hX : XOk X) (n : Nat) (a0 : tSch) (a1 : tVals) : C_impl_KeyOfRow (DD X (n + 1)) a0 a1 = F_impl_KeyOfRow (DD X n) n a0 a1 := (DD_succ X Try.func33 (by kernel_rfl) (hX 33 rfl) n _).trans (E_impl_KeyOfRow ..)
theorem S_spec_KeyOfRow {X : Ext} (hX : XOk X) (n : Nat) (a0 : tSch) (a1 : tVals) : C_spec_KeyOfRow (DD X (n + 1)) a0 a1 = F_spec_KeyOfRow (DD X n) n a0 a1 := (DD_succ X Try.func34 (by kernel_rfl) (hX 34 rfl) n _).trans (E_spec_KeyOfRow ..)
theorem S_impl_TupleOk {X : Ext} (hX : XOk X) (n : Nat) (a0 : tVals) : C_impl_TupleOk (DD X (n + 1)) a0 = F_impl_TupleOk (DD X n) n a0 := (DD_succ X Try.func35 (by kernel_rfl) (hX 35 rfl) n _).trans (E_impl_TupleOk ..)
theorem S_laws_szValueS {X : Ext} (hX : XOk X) (n : Nat) (a0 : tVals) (a1 : Int) : C_laws_szValueS (DD X (n + 1)) a0 a1 = F_laws_szValueS (DD X n) n a0 a1 := (DD_succ X Try.func36 (by kernel_rfl) (hX 36 rfl) n _).trans (E_laws_szValueS ..)
theorem S_laws_toValueS {X : Ext} (hX : XOk X) (n : Nat) (a0 : tVals) : C_laws_toValueS (DD X (n + 1)) a0 = F_laws_toValueS (DD X n) n a0 := (DD_succ X Try.func37 (by kernel_rfl) (hX 37 rfl) n _).trans (E_laws_toValueS ..)
theorem S_laws_eqValueS {X : Ext} (hX : XOk X) (n : Nat) (a0 : tVals) (a1 : tVals) : C_laws_eqValueS (DD X (n + 1)) a0 a1 = F_laws_eqValueS (DD X n) n a0 a1 := (DD_succ X Try.func38 (by kernel_rfl) (hX 38 rfl) n _).trans (E_laws_eqValueS ..)
theorem S_laws_markSchema {X : Ext} (hX : XOk X) (n : Nat) (a0 : tSch) (a1 : Int) : C_laws_markSchema (DD X (n + 1)) a0 a1 = F_laws_markSchema (DD X n) n a0 a1 := (DD_succ X Try.func39 (by kernel_rfl) (hX 39 rfl) n _).trans (E_laws_markSchema ..)
theorem S_laws_markValueS {X : Ext} (hX : XOk X) (n : Nat) (a0 : tVals) (a1 : Int) : C_laws_markValueS (DD X (n + 1)) a0 a1 = F_laws_markValueS (DD X n) n a0 a1 := (DD_succ X Try.func40 (by kernel_rfl) (hX 40 rfl) n _).trans (E_laws_markValueS ..)
theorem S_laws_heldValueS {X : Ext} (hX : XOk X) (n : Nat) (a0 : tVals) (a1 : Int) : C_laws_heldValueS (DD X (n + 1)) a0 a1 = F_laws_heldValueS (DD X n) n a0 a1 := (DD_succ X Try.func41 (by kernel_rfl) (hX 41 rfl) n _).trans (E_laws_heldValueS ..)
theorem S_impl_Project {X : Ext} (hX : XOk X) (n : Nat) (a0 : tVals) (a1 : List Int) : C_impl_Project (DD X (n + 1)) a0 a1 = F_impl_Project (DD X n) n a0 a1 := (DD_succ X Try.func56 (by kernel_rfl) (hX 56 rfl) n _).trans (E_impl_Project ..)
theorem S_laws_szColS {X : Ext} (hX : XOk X) (n : Nat) (a0 : tCols) (a1 : Int) : C_laws_szColS (DD X (n + 1)) a0 a1 = F_laws_szColS (DD X n) n a0 a1 := (DD_succ X Try.func70 (by kernel_rfl) (hX 70 rfl) n _).trans (E_laws_szColS ..)
theorem S_laws_szIntS {X : Ext} (hX : XOk X) (n : Nat) (a0 : List Int) (a1 : Int) : C_laws_szIntS (DD X (n + 1)) a0 a1 = F_laws_szIntS (DD X n) n a0 a1 := (DD_succ X Try.func71 (by kernel_rfl) (hX 71 rfl) n _).trans (E_laws_szIntS ..)
theorem S_laws_szIndexS {X : Ext} (hX : XOk X) (n : Nat) (a0 : tIxs) (a1 : Int) : C_laws_szIndexS (DD X (n + 1)) a0 a1 = F_laws_szIndexS (DD X n) n a0 a1 := (DD_succ X Try.func72 (by kernel_rfl) (hX 72 rfl) n _).trans (E_laws_szIndexS ..)
theorem S_spec_l1In {X : Ext} (hX : XOk X) (n : Nat) (a0 : Int) (a1 : Int) (a2 : Int) : C_spec_l1In (DD X (n + 1)) a0 a1 a2 = F_spec_l1In (DD X n) n a0 a1 a2 := (DD_succ X Try.func73 (by kernel_rfl) (hX 73 rfl) n _).trans (E_spec_l1In ..)
theorem S_spec_l19Places {X : Ext} (hX : XOk X) (n : Nat) (a0 : tSch) (a1 : List Int) (a2 : Int) : C_spec_l19Places (DD X (n + 1)) a0 a1 a2 = F_spec_l19Places (DD X n) n a0 a1 a2 := (DD_succ X Try.func74 (by kernel_rfl) (hX 74 rfl) n _).trans (E_spec_l19Places ..)
theorem S_spec_l19Indexes {X : Ext} (hX : XOk X) (n : Nat) (a0 : tSch) : C_spec_l19Indexes (DD X (n + 1)) a0 = F_spec_l19Indexes (DD X n) n a0 := (DD_succ X Try.func75 (by kernel_rfl) (hX 75 rfl) n _).trans (E_spec_l19Indexes ..)
theorem S_laws_toColS {X : Ext} (hX : XOk X) (n : Nat) (a0 : tCols) : C_laws_toColS (DD X (n + 1)) a0 = F_laws_toColS (DD X n) n a0 := (DD_succ X Try.func76 (by kernel_rfl) (hX 76 rfl) n _).trans (E_laws_toColS ..)
theorem S_laws_toIntS {X : Ext} (hX : XOk X) (n : Nat) (a0 : List Int) : C_laws_toIntS (DD X (n + 1)) a0 = F_laws_toIntS (DD X n) n a0 := (DD_succ X Try.func77 (by kernel_rfl) (hX 77 rfl) n _).trans (E_laws_toIntS ..)
theorem S_laws_toIndexS {X : Ext} (hX : XOk X) (n : Nat) (a0 : tIxs) : C_laws_toIndexS (DD X (n + 1)) a0 = F_laws_toIndexS (DD X n) n a0 := (DD_succ X Try.func78 (by kernel_rfl) (hX 78 rfl) n _).trans (E_laws_toIndexS ..)
theorem S_impl_from {X : Ext} (hX : XOk X) (n : Nat) (a0 : Int) (a1 : Int) (a2 : Int) : C_impl_from (DD X (n + 1)) a0 a1 a2 = F_impl_from (DD X n) n a0 a1 a2 := (DD_succ X Try.func79 (by kernel_rfl) (hX 79 rfl) n _).trans (E_impl_from ..)
theorem S_impl_placesOk {X : Ext} (hX : XOk X) (n : Nat) (a0 : tSch) (a1 : List Int) (a2 : Int) : C_impl_placesOk (DD X (n + 1)) a0 a1 a2 = F_impl_placesOk (DD X n) n a0 a1 a2 := (DD_succ X Try.func80 (by kernel_rfl) (hX 80 rfl) n _).trans (E_impl_placesOk ..)
theorem S_slices_ContainsFunc_impl_Index_impl_Index {X : Ext} (hX : XOk X) (n : Nat) (a0 : tIxs) (a1 : Clo) : C_slices_ContainsFunc_impl_Index_impl_Index (DD X (n + 1)) a0 a1 = F_slices_ContainsFunc_impl_Index_impl_Index (DD X n) n a0 a1 := (DD_succ X Try.func81 (by kernel_rfl) (hX 81 rfl) n _).trans (E_slices_ContainsFunc_impl_Index_impl_Index ..)
theorem S_impl_SchemaOk_1 {X : Ext} (hX : XOk X) (n : Nat) (a0 : ByteArray × List Int × Bool × Unit) (a1 : ByteArray × List Int × Bool × Unit) : C_impl_SchemaOk_1 (DD X (n + 1)) a0 a1 = F_impl_SchemaOk_1 (DD X n) n a0 a1 := (DD_succ X Try.func82 (by kernel_rfl) (hX 82 rfl) n _).trans (E_impl_SchemaOk_1 ..)
theorem S_slices_ContainsFunc_int_int {X : Ext} (hX : XOk X) (n : Nat) (a0 : List Int) (a1 : Clo) : C_slices_ContainsFunc_int_int (DD X (n + 1)) a0 a1 = F_slices_ContainsFunc_int_int (DD X n) n a0 a1 := (DD_succ X Try.func83 (by kernel_rfl) (hX 83 rfl) n _).trans (E_slices_ContainsFunc_int_int ..)
theorem S_impl_SchemaOk_2 {X : Ext} (hX : XOk X) (n : Nat) (a0 : Int) (a1 : tSch) : C_impl_SchemaOk_2 (DD X (n + 1)) a0 a1 = F_impl_SchemaOk_2 (DD X n) n a0 a1 := (DD_succ X Try.func84 (by kernel_rfl) (hX 84 rfl) n _).trans (E_impl_SchemaOk_2 ..)
theorem S_laws_eqColS {X : Ext} (hX : XOk X) (n : Nat) (a0 : tCols) (a1 : tCols) : C_laws_eqColS (DD X (n + 1)) a0 a1 = F_laws_eqColS (DD X n) n a0 a1 := (DD_succ X Try.func85 (by kernel_rfl) (hX 85 rfl) n _).trans (E_laws_eqColS ..)
theorem S_laws_eqIntS {X : Ext} (hX : XOk X) (n : Nat) (a0 : List Int) (a1 : List Int) : C_laws_eqIntS (DD X (n + 1)) a0 a1 = F_laws_eqIntS (DD X n) n a0 a1 := (DD_succ X Try.func86 (by kernel_rfl) (hX 86 rfl) n _).trans (E_laws_eqIntS ..)
theorem S_laws_eqIndexS {X : Ext} (hX : XOk X) (n : Nat) (a0 : tIxs) (a1 : tIxs) : C_laws_eqIndexS (DD X (n + 1)) a0 a1 = F_laws_eqIndexS (DD X n) n a0 a1 := (DD_succ X Try.func87 (by kernel_rfl) (hX 87 rfl) n _).trans (E_laws_eqIndexS ..)
theorem S_spec_l1New {X : Ext} (hX : XOk X) (n : Nat) (a0 : List Int) : C_spec_l1New (DD X (n + 1)) a0 = F_spec_l1New (DD X n) n a0 := (DD_succ X Try.func88 (by kernel_rfl) (hX 88 rfl) n _).trans (E_spec_l1New ..)
theorem S_spec_l19Draw {X : Ext} (hX : XOk X) (n : Nat) (a0 : List Int × Int × Int × Unit) : C_spec_l19Draw (DD X (n + 1)) a0 = F_spec_l19Draw (DD X n) n a0 := (DD_succ X Try.func89 (by kernel_rfl) (hX 89 rfl) n _).trans (E_spec_l19Draw ..)
theorem S_spec_l19DrawRow {X : Ext} (hX : XOk X) (n : Nat) (a0 : List Int × Int × Int × Unit) (a1 : tSch) : C_spec_l19DrawRow (DD X (n + 1)) a0 a1 = F_spec_l19DrawRow (DD X n) n a0 a1 := (DD_succ X Try.func90 (by kernel_rfl) (hX 90 rfl) n _).trans (E_spec_l19DrawRow ..)
theorem S_spec_l1Below {X : Ext} (hX : XOk X) (n : Nat) (a0 : List Int × Int × Int × Unit) (a1 : Int) : C_spec_l1Below (DD X (n + 1)) a0 a1 = F_spec_l1Below (DD X n) n a0 a1 := (DD_succ X Try.func91 (by kernel_rfl) (hX 91 rfl) n _).trans (E_spec_l1Below ..)
theorem S_spec_l17Draw {X : Ext} (hX : XOk X) (n : Nat) (a0 : List Int × Int × Int × Unit) : C_spec_l17Draw (DD X (n + 1)) a0 = F_spec_l17Draw (DD X n) n a0 := (DD_succ X Try.func92 (by kernel_rfl) (hX 92 rfl) n _).trans (E_spec_l17Draw ..)
theorem S_spec_l1Pick {X : Ext} (hX : XOk X) (n : Nat) (a0 : List Int × Int × Int × Unit) (a1 : List ByteArray) : C_spec_l1Pick (DD X (n + 1)) a0 a1 = F_spec_l1Pick (DD X n) n a0 a1 := (DD_succ X Try.func93 (by kernel_rfl) (hX 93 rfl) n _).trans (E_spec_l1Pick ..)
theorem S_impl_ValueOk {X : Ext} (hX : XOk X) (n : Nat) (a0 : Int × Int × ByteArray × Unit) : C_impl_ValueOk (DD X (n + 1)) a0 = F_impl_ValueOk (DD X n) n a0 := (DD_succ X Try.func94 (by kernel_rfl) (hX 94 rfl) n _).trans (E_impl_ValueOk ..)
theorem S_spec_ValueOk {X : Ext} (hX : XOk X) (n : Nat) (a0 : Int × Int × ByteArray × Unit) : C_spec_ValueOk (DD X (n + 1)) a0 = F_spec_ValueOk (DD X n) n a0 := (DD_succ X Try.func95 (by kernel_rfl) (hX 95 rfl) n _).trans (E_spec_ValueOk ..)
theorem S_slices_IndexFunc_impl_Col_impl_Col {X : Ext} (hX : XOk X) (n : Nat) (a0 : tCols) (a1 : Clo) : C_slices_IndexFunc_impl_Col_impl_Col (DD X (n + 1)) a0 a1 = F_slices_IndexFunc_impl_Col_impl_Col (DD X n) n a0 a1 := (DD_succ X Try.func96 (by kernel_rfl) (hX 96 rfl) n _).trans (E_slices_IndexFunc_impl_Col_impl_Col ..)
theorem S_impl_ColAt_1 {X : Ext} (hX : XOk X) (n : Nat) (a0 : ByteArray × Int × Bool × Unit) (a1 : ByteArray) : C_impl_ColAt_1 (DD X (n + 1)) a0 a1 = F_impl_ColAt_1 (DD X n) n a0 a1 := (DD_succ X Try.func97 (by kernel_rfl) (hX 97 rfl) n _).trans (E_impl_ColAt_1 ..)
theorem S_spec_Project {X : Ext} (hX : XOk X) (n : Nat) (a0 : tVals) (a1 : List Int) : C_spec_Project (DD X (n + 1)) a0 a1 = F_spec_Project (DD X n) n a0 a1 := (DD_succ X Try.func98 (by kernel_rfl) (hX 98 rfl) n _).trans (E_spec_Project ..)
theorem S_slices_ContainsFunc_impl_Value_impl_Value {X : Ext} (hX : XOk X) (n : Nat) (a0 : tVals) (a1 : Clo) : C_slices_ContainsFunc_impl_Value_impl_Value (DD X (n + 1)) a0 a1 = F_slices_ContainsFunc_impl_Value_impl_Value (DD X n) n a0 a1 := (DD_succ X Try.func99 (by kernel_rfl) (hX 99 rfl) n _).trans (E_slices_ContainsFunc_impl_Value_impl_Value ..)
theorem S_impl_TupleOk_1 {X : Ext} (hX : XOk X) (n : Nat) (a0 : Int × Int × ByteArray × Unit) : C_impl_TupleOk_1 (DD X (n + 1)) a0 = F_impl_TupleOk_1 (DD X n) n a0 := (DD_succ X Try.func100 (by kernel_rfl) (hX 100 rfl) n _).trans (E_impl_TupleOk_1 ..)
theorem S_laws_szValue {X : Ext} (hX : XOk X) (n : Nat) (a0 : Int × Int × ByteArray × Unit) (a1 : Int) : C_laws_szValue (DD X (n + 1)) a0 a1 = F_laws_szValue (DD X n) n a0 a1 := (DD_succ X Try.func101 (by kernel_rfl) (hX 101 rfl) n _).trans (E_laws_szValue ..)
theorem S_laws_toValue {X : Ext} (hX : XOk X) (n : Nat) (a0 : Int × Int × ByteArray × Unit) : C_laws_toValue (DD X (n + 1)) a0 = F_laws_toValue (DD X n) n a0 := (DD_succ X Try.func102 (by kernel_rfl) (hX 102 rfl) n _).trans (E_laws_toValue ..)
theorem S_laws_eqValue {X : Ext} (hX : XOk X) (n : Nat) (a0 : Int × Int × ByteArray × Unit) (a1 : Int × Int × ByteArray × Unit) : C_laws_eqValue (DD X (n + 1)) a0 a1 = F_laws_eqValue (DD X n) n a0 a1 := (DD_succ X Try.func103 (by kernel_rfl) (hX 103 rfl) n _).trans (E_laws_eqValue ..)
theorem S_laws_markColS {X : Ext} (hX : XOk X) (n : Nat) (a0 : tCols) (a1 : Int) : C_laws_markColS (DD X (n + 1)) a0 a1 = F_laws_markColS (DD X n) n a0 a1 := (DD_succ X Try.func104 (by kernel_rfl) (hX 104 rfl) n _).trans (E_laws_markColS ..)
theorem S_laws_markIntS {X : Ext} (hX : XOk X) (n : Nat) (a0 : List Int) (a1 : Int) : C_laws_markIntS (DD X (n + 1)) a0 a1 = F_laws_markIntS (DD X n) n a0 a1 := (DD_succ X Try.func105 (by kernel_rfl) (hX 105 rfl) n _).trans (E_laws_markIntS ..)
theorem S_laws_markIndexS {X : Ext} (hX : XOk X) (n : Nat) (a0 : tIxs) (a1 : Int) : C_laws_markIndexS (DD X (n + 1)) a0 a1 = F_laws_markIndexS (DD X n) n a0 a1 := (DD_succ X Try.func106 (by kernel_rfl) (hX 106 rfl) n _).trans (E_laws_markIndexS ..)
theorem S_laws_markText {X : Ext} (hX : XOk X) (n : Nat) (a0 : Int) : C_laws_markText (DD X (n + 1)) a0 = F_laws_markText (DD X n) n a0 := (DD_succ X Try.func107 (by kernel_rfl) (hX 107 rfl) n _).trans (E_laws_markText ..)
theorem S_slices_ContainsFunc_impl_Value_impl_Valuex {X : Ext} (hX : XOk X) (n : Nat) (a0 : tRows) (a1 : Clo) : C_slices_ContainsFunc_impl_Value_impl_Valuex (DD X (n + 1)) a0 a1 = F_slices_ContainsFunc_impl_Value_impl_Valuex (DD X n) n a0 a1 := (DD_succ X Try.func116 (by kernel_rfl) (hX 116 rfl) n _).trans (E_slices_ContainsFunc_impl_Value_impl_Valuex ..)
theorem S_slices_IndexFunc_impl_Value_impl_Value {X : Ext} (hX : XOk X) (n : Nat) (a0 : tRows) (a1 : Clo) : C_slices_IndexFunc_impl_Value_impl_Value (DD X (n + 1)) a0 a1 = F_slices_IndexFunc_impl_Value_impl_Value (DD X n) n a0 a1 := (DD_succ X Try.func130 (by kernel_rfl) (hX 130 rfl) n _).trans (E_slices_IndexFunc_impl_Value_impl_Value ..)
theorem S_laws_heldSchema {X : Ext} (hX : XOk X) (n : Nat) (a0 : tSch) (a1 : Int) : C_laws_heldSchema (DD X (n + 1)) a0 a1 = F_laws_heldSchema (DD X n) n a0 a1 := (DD_succ X Try.func136 (by kernel_rfl) (hX 136 rfl) n _).trans (E_laws_heldSchema ..)
theorem S_laws_szCol {X : Ext} (hX : XOk X) (n : Nat) (a0 : ByteArray × Int × Bool × Unit) (a1 : Int) : C_laws_szCol (DD X (n + 1)) a0 a1 = F_laws_szCol (DD X n) n a0 a1 := (DD_succ X Try.func143 (by kernel_rfl) (hX 143 rfl) n _).trans (E_laws_szCol ..)
theorem S_laws_szIndex {X : Ext} (hX : XOk X) (n : Nat) (a0 : ByteArray × List Int × Bool × Unit) (a1 : Int) : C_laws_szIndex (DD X (n + 1)) a0 a1 = F_laws_szIndex (DD X n) n a0 a1 := (DD_succ X Try.func144 (by kernel_rfl) (hX 144 rfl) n _).trans (E_laws_szIndex ..)
theorem S_laws_toCol {X : Ext} (hX : XOk X) (n : Nat) (a0 : ByteArray × Int × Bool × Unit) : C_laws_toCol (DD X (n + 1)) a0 = F_laws_toCol (DD X n) n a0 := (DD_succ X Try.func145 (by kernel_rfl) (hX 145 rfl) n _).trans (E_laws_toCol ..)
theorem S_laws_toIndex {X : Ext} (hX : XOk X) (n : Nat) (a0 : ByteArray × List Int × Bool × Unit) : C_laws_toIndex (DD X (n + 1)) a0 = F_laws_toIndex (DD X n) n a0 := (DD_succ X Try.func146 (by kernel_rfl) (hX 146 rfl) n _).trans (E_laws_toIndex ..)
theorem S_slices_Contains_int_int {X : Ext} (hX : XOk X) (n : Nat) (a0 : List Int) (a1 : Int) : C_slices_Contains_int_int (DD X (n + 1)) a0 a1 = F_slices_Contains_int_int (DD X n) n a0 a1 := (DD_succ X Try.func147 (by kernel_rfl) (hX 147 rfl) n _).trans (E_slices_Contains_int_int ..)
theorem S_slices_IndexFunc_impl_Index_impl_Index {X : Ext} (hX : XOk X) (n : Nat) (a0 : tIxs) (a1 : Clo) : C_slices_IndexFunc_impl_Index_impl_Index (DD X (n + 1)) a0 a1 = F_slices_IndexFunc_impl_Index_impl_Index (DD X n) n a0 a1 := (DD_succ X Try.func148 (by kernel_rfl) (hX 148 rfl) n _).trans (E_slices_IndexFunc_impl_Index_impl_Index ..)
theorem S_slices_IndexFunc_int_int {X : Ext} (hX : XOk X) (n : Nat) (a0 : List Int) (a1 : Clo) : C_slices_IndexFunc_int_int (DD X (n + 1)) a0 a1 = F_slices_IndexFunc_int_int (DD X n) n a0 a1 := (DD_succ X Try.func149 (by kernel_rfl) (hX 149 rfl) n _).trans (E_slices_IndexFunc_int_int ..)
theorem S_laws_eqCol {X : Ext} (hX : XOk X) (n : Nat) (a0 : ByteArray × Int × Bool × Unit) (a1 : ByteArray × Int × Bool × Unit) : C_laws_eqCol (DD X (n + 1)) a0 a1 = F_laws_eqCol (DD X n) n a0 a1 := (DD_succ X Try.func150 (by kernel_rfl) (hX 150 rfl) n _).trans (E_laws_eqCol ..)
theorem S_laws_eqIndex {X : Ext} (hX : XOk X) (n : Nat) (a0 : ByteArray × List Int × Bool × Unit) (a1 : ByteArray × List Int × Bool × Unit) : C_laws_eqIndex (DD X (n + 1)) a0 a1 = F_laws_eqIndex (DD X n) n a0 a1 := (DD_succ X Try.func151 (by kernel_rfl) (hX 151 rfl) n _).trans (E_laws_eqIndex ..)
theorem S_spec_l19DrawRight {X : Ext} (hX : XOk X) (n : Nat) (a0 : List Int × Int × Int × Unit) : C_spec_l19DrawRight (DD X (n + 1)) a0 = F_spec_l19DrawRight (DD X n) n a0 := (DD_succ X Try.func152 (by kernel_rfl) (hX 152 rfl) n _).trans (E_spec_l19DrawRight ..)
theorem S_spec_l1PickInt {X : Ext} (hX : XOk X) (n : Nat) (a0 : List Int × Int × Int × Unit) (a1 : List Int) : C_spec_l1PickInt (DD X (n + 1)) a0 a1 = F_spec_l1PickInt (DD X n) n a0 a1 := (DD_succ X Try.func153 (by kernel_rfl) (hX 153 rfl) n _).trans (E_spec_l1PickInt ..)
theorem S_spec_l1Once {X : Ext} (hX : XOk X) (n : Nat) (a0 : List Int × Int × Int × Unit) (a1 : Int) : C_spec_l1Once (DD X (n + 1)) a0 a1 = F_spec_l1Once (DD X n) n a0 a1 := (DD_succ X Try.func154 (by kernel_rfl) (hX 154 rfl) n _).trans (E_spec_l1Once ..)
theorem S_spec_l17DrawOf {X : Ext} (hX : XOk X) (n : Nat) (a0 : List Int × Int × Int × Unit) (a1 : Int) : C_spec_l17DrawOf (DD X (n + 1)) a0 a1 = F_spec_l17DrawOf (DD X n) n a0 a1 := (DD_succ X Try.func155 (by kernel_rfl) (hX 155 rfl) n _).trans (E_spec_l17DrawOf ..)
theorem S_spec_l1Byte {X : Ext} (hX : XOk X) (n : Nat) (a0 : List Int × Int × Int × Unit) : C_spec_l1Byte (DD X (n + 1)) a0 = F_spec_l1Byte (DD X n) n a0 := (DD_succ X Try.func156 (by kernel_rfl) (hX 156 rfl) n _).trans (E_spec_l1Byte ..)
theorem S_spec_l17DrawRight {X : Ext} (hX : XOk X) (n : Nat) (a0 : List Int × Int × Int × Unit) : C_spec_l17DrawRight (DD X (n + 1)) a0 = F_spec_l17DrawRight (DD X n) n a0 := (DD_succ X Try.func157 (by kernel_rfl) (hX 157 rfl) n _).trans (E_spec_l17DrawRight ..)
theorem S_slices_IndexFunc_impl_Value_impl_Valuex {X : Ext} (hX : XOk X) (n : Nat) (a0 : tVals) (a1 : Clo) : C_slices_IndexFunc_impl_Value_impl_Valuex (DD X (n + 1)) a0 a1 = F_slices_IndexFunc_impl_Value_impl_Valuex (DD X n) n a0 a1 := (DD_succ X Try.func158 (by kernel_rfl) (hX 158 rfl) n _).trans (E_slices_IndexFunc_impl_Value_impl_Valuex ..)
theorem S_laws_heldColS {X : Ext} (hX : XOk X) (n : Nat) (a0 : tCols) (a1 : Int) : C_laws_heldColS (DD X (n + 1)) a0 a1 = F_laws_heldColS (DD X n) n a0 a1 := (DD_succ X Try.func178 (by kernel_rfl) (hX 178 rfl) n _).trans (E_laws_heldColS ..)
theorem S_laws_heldIntS {X : Ext} (hX : XOk X) (n : Nat) (a0 : List Int) (a1 : Int) : C_laws_heldIntS (DD X (n + 1)) a0 a1 = F_laws_heldIntS (DD X n) n a0 a1 := (DD_succ X Try.func179 (by kernel_rfl) (hX 179 rfl) n _).trans (E_laws_heldIntS ..)
theorem S_laws_heldIndexS {X : Ext} (hX : XOk X) (n : Nat) (a0 : tIxs) (a1 : Int) : C_laws_heldIndexS (DD X (n + 1)) a0 a1 = F_laws_heldIndexS (DD X n) n a0 a1 := (DD_succ X Try.func180 (by kernel_rfl) (hX 180 rfl) n _).trans (E_laws_heldIndexS ..)
theorem S_slices_Index_int_int {X : Ext} (hX : XOk X) (n : Nat) (a0 : List Int) (a1 : Int) : C_slices_Index_int_int (DD X (n + 1)) a0 a1 = F_slices_Index_int_int (DD X n) n a0 a1 := (DD_succ X Try.func186 (by kernel_rfl) (hX 186 rfl) n _).trans (E_slices_Index_int_int ..)
end Go.G


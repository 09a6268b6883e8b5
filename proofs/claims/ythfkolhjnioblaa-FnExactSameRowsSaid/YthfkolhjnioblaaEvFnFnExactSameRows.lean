/- The functions that the law FnExactSameRows reaches, as typed functions. -/
import Derived.Test.YthfkolhjnioblaaEvCore
set_option linter.all false
namespace Go.Proofs.Ythfkolhjnioblaa.Ev
open Go
/-- loop.example/g00462/laws.szVal -/
def laws_szVal : Nat → Int → Int → ByteArray → Int → Option Int
  | 0, _, _, _, _ => none
  | n + 1, a1, a2, a3, a4 => (let v5 : Int := (IntKind.wrap .i64 (a4 - (a3.size : Int))); (bif (decide (v5 < (0 : Int))) then (some (-1 : Int)) else (some v5)))
def laws_szValS_L1 (n : Nat) : Nat → List (Int × (Int × ByteArray)) → Int → Int → Option Int
  | 0, _, _, _ => none
  | j + 1, x4, x5, x6 => (bif (decide (x6 < (x4.length : Int))) then (bif (inR x6 x4.length) then (let v7 : (Int × (Int × ByteArray)) := (x4.getD x6.toNat ((0 : Int), ((0 : Int), (⟨#[]⟩ : ByteArray)))); ((laws_szVal n v7.1 v7.2.1 v7.2.2 x5).bind fun r8 => (bif (decide (r8 < (0 : Int))) then (some (-1 : Int)) else (laws_szValS_L1 n j x4 r8 (IntKind.wrap .i64 (x6 + (1 : Int))))))) else none) else (some x5))
/-- loop.example/g00462/laws.szValS -/
def laws_szValS : Nat → (List (Int × (Int × ByteArray))) → Int → Option Int
  | 0, _, _ => none
  | n + 1, a1, a2 => (let v3 : Int := (IntKind.wrap .i64 (a2 - (a1.length : Int))); (bif (decide (v3 < (0 : Int))) then (some (-1 : Int)) else (laws_szValS_L1 n n a1 v3 (0 : Int))))
/-- loop.example/g00462/laws.szRow -/
def laws_szRow : Nat → (List (Int × (Int × ByteArray))) → Int → Option Int
  | 0, _, _ => none
  | n + 1, a1, a2 => ((laws_szValS n a1 a2).bind fun r3 => (bif (decide (r3 < (0 : Int))) then (some (-1 : Int)) else (some r3)))
def laws_szRowS_L1 (n : Nat) : Nat → List (List (Int × (Int × ByteArray))) → Int → Int → Option Int
  | 0, _, _, _ => none
  | j + 1, x4, x5, x6 => (bif (decide (x6 < (x4.length : Int))) then (bif (inR x6 x4.length) then (let v7 : (List (Int × (Int × ByteArray))) := (x4.getD x6.toNat ([] : (List (Int × (Int × ByteArray))))); ((laws_szRow n v7 x5).bind fun r8 => (bif (decide (r8 < (0 : Int))) then (some (-1 : Int)) else (laws_szRowS_L1 n j x4 r8 (IntKind.wrap .i64 (x6 + (1 : Int))))))) else none) else (some x5))
/-- loop.example/g00462/laws.szRowS -/
def laws_szRowS : Nat → (List (List (Int × (Int × ByteArray)))) → Int → Option Int
  | 0, _, _ => none
  | n + 1, a1, a2 => (let v3 : Int := (IntKind.wrap .i64 (a2 - (a1.length : Int))); (bif (decide (v3 < (0 : Int))) then (some (-1 : Int)) else (laws_szRowS_L1 n n a1 v3 (0 : Int))))
/-- loop.example/g00462/laws.toVal -/
def laws_toVal : Nat → Int → Int → ByteArray → Option (Int × (Int × ByteArray))
  | 0, _, _, _ => none
  | n + 1, a1, a2, a3 => (some (a1, (a2, a3)))
def laws_toValS_L1 (n : Nat) : Nat → List (Int × (Int × ByteArray)) → Int → List (Int × (Int × ByteArray)) → Option (List (Int × (Int × ByteArray)))
  | 0, _, _, _ => none
  | j + 1, x3, x4, x5 => (bif (decide (x4 < (x3.length : Int))) then (bif (inR x4 x3.length) then (let v6 : (Int × (Int × ByteArray)) := (x3.getD x4.toNat ((0 : Int), ((0 : Int), (⟨#[]⟩ : ByteArray)))); ((laws_toVal n v6.1 v6.2.1 v6.2.2).bind fun r7 => (bif (inR x4 x5.length) then (let v8 : List (Int × (Int × ByteArray)) := (x5.set x4.toNat (r7.1, (r7.2.1, r7.2.2))); (laws_toValS_L1 n j x3 (IntKind.wrap .i64 (x4 + (1 : Int))) v8)) else none))) else none) else (some x5))
/-- loop.example/g00462/laws.toValS -/
def laws_toValS : Nat → (List (Int × (Int × ByteArray))) → Option (List (Int × (Int × ByteArray)))
  | 0, _ => none
  | n + 1, a1 => (bif (decide ((a1.length : Int) = (a1.length : Int) ∧ 0 ≤ (a1.length : Int)) && room (a1.length : Int).toNat 32) then (let v2 : List (Int × (Int × ByteArray)) := (List.replicate (a1.length : Int).toNat ((0 : Int), ((0 : Int), (⟨#[]⟩ : ByteArray)))); (laws_toValS_L1 n n a1 (0 : Int) v2)) else none)
/-- loop.example/g00462/laws.toRow -/
def laws_toRow : Nat → (List (Int × (Int × ByteArray))) → Option (List (Int × (Int × ByteArray)))
  | 0, _ => none
  | n + 1, a1 => ((laws_toValS n a1).bind fun r2 => (some r2))
def laws_toRowS_L1 (n : Nat) : Nat → List (List (Int × (Int × ByteArray))) → Int → List (List (Int × (Int × ByteArray))) → Option (List (List (Int × (Int × ByteArray))))
  | 0, _, _, _ => none
  | j + 1, x4, x5, x6 => (bif (decide (x5 < (x4.length : Int))) then (bif (inR x5 x4.length) then (let v7 : (List (Int × (Int × ByteArray))) := (x4.getD x5.toNat ([] : (List (Int × (Int × ByteArray))))); ((laws_toRow n v7).bind fun r8 => (bif (inR x5 x6.length) then (laws_toRowS_L1 n j x4 (IntKind.wrap .i64 (x5 + (1 : Int))) (x6.set x5.toNat r8)) else none))) else none) else (some x6))
/-- loop.example/g00462/laws.toRowS -/
def laws_toRowS : Nat → (List (List (Int × (Int × ByteArray)))) → Option (List (List (Int × (Int × ByteArray))))
  | 0, _ => none
  | n + 1, a1 => (let v2 : List (List (Int × (Int × ByteArray))) := ([] : List (List (Int × (Int × ByteArray)))); (bif (decide ((a1.length : Int) = (a1.length : Int) ∧ 0 ≤ (a1.length : Int)) && room (a1.length : Int).toNat 24) then (let v3 : List (List (Int × (Int × ByteArray))) := (List.replicate (a1.length : Int).toNat ([] : (List (Int × (Int × ByteArray))))); (laws_toRowS_L1 n n a1 (0 : Int) v3)) else none))
def spec_l03SameVals_L1 (n : Nat) : Nat → List (Int × (Int × ByteArray)) → List (Int × (Int × ByteArray)) → Int → Int → Option Bool
  | 0, _, _, _, _ => none
  | j + 1, x4, x5, x6, x7 => (bif (decide (x7 < x6)) then (bif (inR x7 x4.length) then (let v8 : (Int × (Int × ByteArray)) := (x4.getD x7.toNat ((0 : Int), ((0 : Int), (⟨#[]⟩ : ByteArray)))); (bif (inR x7 x5.length) then (let v9 : (Int × (Int × ByteArray)) := (x5.getD x7.toNat ((0 : Int), ((0 : Int), (⟨#[]⟩ : ByteArray)))); (let v10 : Bool := (!((v8.1 == v9.1) && ((v8.2.1 == v9.2.1) && ((v8.2.2.toList == v9.2.2.toList) && true)))); (bif v10 then (some false) else (spec_l03SameVals_L1 n j x4 x5 x6 (IntKind.wrap .i64 (x7 + (1 : Int))))))) else none)) else none) else (some true))
/-- loop.example/g00462/spec.l03SameVals -/
def spec_l03SameVals : Nat → (List (Int × (Int × ByteArray))) → (List (Int × (Int × ByteArray))) → Option Bool
  | 0, _, _ => none
  | n + 1, a1, a2 => (let v3 : Bool := ((a1.length : Int) != (a2.length : Int)); (bif v3 then (some false) else (spec_l03SameVals_L1 n n a1 a2 (a1.length : Int) (0 : Int))))
def spec_SameRows_L1 (n : Nat) : Nat → List (List (Int × (Int × ByteArray))) → List (List (Int × (Int × ByteArray))) → Int → Int → Option Bool
  | 0, _, _, _, _ => none
  | j + 1, x4, x5, x6, x7 => (bif (decide (x7 < x6)) then (bif (inR x7 x4.length) then (let v8 : (List (Int × (Int × ByteArray))) := (x4.getD x7.toNat ([] : (List (Int × (Int × ByteArray))))); (bif (inR x7 x5.length) then (let v9 : (List (Int × (Int × ByteArray))) := (x5.getD x7.toNat ([] : (List (Int × (Int × ByteArray))))); ((spec_l03SameVals n v8 v9).bind fun r10 => (bif (!r10) then (some false) else (spec_SameRows_L1 n j x4 x5 x6 (IntKind.wrap .i64 (x7 + (1 : Int))))))) else none)) else none) else (some true))
/-- loop.example/g00462/spec.SameRows -/
def spec_SameRows : Nat → (List (List (Int × (Int × ByteArray)))) → (List (List (Int × (Int × ByteArray)))) → Option Bool
  | 0, _, _ => none
  | n + 1, a1, a2 => (let v3 : Bool := ((a1.length : Int) != (a2.length : Int)); (bif v3 then (some false) else (spec_SameRows_L1 n n a1 a2 (a1.length : Int) (0 : Int))))
def slices_Equal_impl_Val_impl_Val_L1 (n : Nat) : Nat → List (Int × (Int × ByteArray)) → List (Int × (Int × ByteArray)) → Int → Int → Option Bool
  | 0, _, _, _, _ => none
  | j + 1, x4, x5, x6, x7 => (bif (decide (x7 < x6)) then (bif (inR x7 x4.length) then (let v8 : (Int × (Int × ByteArray)) := (x4.getD x7.toNat ((0 : Int), ((0 : Int), (⟨#[]⟩ : ByteArray)))); (bif (inR x7 x5.length) then (let v9 : (Int × (Int × ByteArray)) := (x5.getD x7.toNat ((0 : Int), ((0 : Int), (⟨#[]⟩ : ByteArray)))); (let v10 : Bool := (!((v8.1 == v9.1) && ((v8.2.1 == v9.2.1) && ((v8.2.2.toList == v9.2.2.toList) && true)))); (bif v10 then (some false) else (slices_Equal_impl_Val_impl_Val_L1 n j x4 x5 x6 (IntKind.wrap .i64 (x7 + (1 : Int))))))) else none)) else none) else (some true))
/-- slices.Equal[[]loop.example/g00462/impl.Val,loop.example/g00462/impl.Val] -/
def slices_Equal_impl_Val_impl_Val : Nat → (List (Int × (Int × ByteArray))) → (List (Int × (Int × ByteArray))) → Option Bool
  | 0, _, _ => none
  | n + 1, a1, a2 => (let v3 : Bool := ((a1.length : Int) != (a2.length : Int)); (bif v3 then (some false) else (slices_Equal_impl_Val_impl_Val_L1 n n a1 a2 (a1.length : Int) (0 : Int))))
/-- loop.example/g00462/impl.SameRows$1 -/
def impl_SameRows_1 : Nat → (List (Int × (Int × ByteArray))) → (List (Int × (Int × ByteArray))) → Option Bool
  | 0, _, _ => none
  | n + 1, a1, a2 => ((slices_Equal_impl_Val_impl_Val n a1 a2).bind fun r3 => (some r3))
def slices_EqualFunc_impl_Row_impl_Row_impl_Row_impl_Row__impl_SameRows_1_L1 (n : Nat) : Nat → List (List (Int × (Int × ByteArray))) → List (List (Int × (Int × ByteArray))) → Int → Int → Option Bool
  | 0, _, _, _, _ => none
  | j + 1, x4, x5, x6, x7 => (bif (decide (x7 < x6)) then (bif (inR x7 x5.length) then (let v8 : (List (Int × (Int × ByteArray))) := (x5.getD x7.toNat ([] : (List (Int × (Int × ByteArray))))); (bif (inR x7 x4.length) then (let v9 : (List (Int × (Int × ByteArray))) := (x4.getD x7.toNat ([] : (List (Int × (Int × ByteArray))))); ((impl_SameRows_1 n v8 v9).bind fun r10 => (bif (!r10) then (some false) else (slices_EqualFunc_impl_Row_impl_Row_impl_Row_impl_Row__impl_SameRows_1_L1 n j x4 x5 x6 (IntKind.wrap .i64 (x7 + (1 : Int))))))) else none)) else none) else (some true))
/-- slices.EqualFunc[[]loop.example/g00462/impl.Row,[]loop.example/g00462/impl.Row,loop.example/g00462/impl.Row,loop.example/g00462/impl.Row] -/
def slices_EqualFunc_impl_Row_impl_Row_impl_Row_impl_Row__impl_SameRows_1 : Nat → (List (List (Int × (Int × ByteArray)))) → (List (List (Int × (Int × ByteArray)))) → Option Bool
  | 0, _, _ => none
  | n + 1, a1, a2 => (let v3 : Bool := ((a1.length : Int) != (a2.length : Int)); (bif v3 then (some false) else (slices_EqualFunc_impl_Row_impl_Row_impl_Row_impl_Row__impl_SameRows_1_L1 n n a2 a1 (a1.length : Int) (0 : Int))))
/-- loop.example/g00462/impl.SameRows -/
def impl_SameRows : Nat → (List (List (Int × (Int × ByteArray)))) → (List (List (Int × (Int × ByteArray)))) → Option Bool
  | 0, _, _ => none
  | n + 1, a1, a2 => ((slices_EqualFunc_impl_Row_impl_Row_impl_Row_impl_Row__impl_SameRows_1 n a1 a2).bind fun r3 => (some r3))
/-- loop.example/g00462/laws.eqVal -/
def laws_eqVal : Nat → Int → Int → ByteArray → Int → Int → ByteArray → Option Bool
  | 0, _, _, _, _, _, _ => none
  | n + 1, a1, a2, a3, a4, a5, a6 => (bif (a1 != a4) then (some false) else (bif (a2 != a5) then (some false) else (bif (!(a3.toList == a6.toList)) then (some false) else (some true))))
def laws_eqValS_L1 (n : Nat) : Nat → List (Int × (Int × ByteArray)) → List (Int × (Int × ByteArray)) → Int → Option Bool
  | 0, _, _, _ => none
  | j + 1, x4, x5, x6 => (bif (decide (x6 < (x4.length : Int))) then (bif (inR x6 x4.length) then (let v7 : (Int × (Int × ByteArray)) := (x4.getD x6.toNat ((0 : Int), ((0 : Int), (⟨#[]⟩ : ByteArray)))); (bif (inR x6 x5.length) then (let v8 : (Int × (Int × ByteArray)) := (x5.getD x6.toNat ((0 : Int), ((0 : Int), (⟨#[]⟩ : ByteArray)))); ((laws_eqVal n v7.1 v7.2.1 v7.2.2 v8.1 v8.2.1 v8.2.2).bind fun r9 => (bif (!r9) then (some false) else (laws_eqValS_L1 n j x4 x5 (IntKind.wrap .i64 (x6 + (1 : Int))))))) else none)) else none) else (some true))
/-- loop.example/g00462/laws.eqValS -/
def laws_eqValS : Nat → (List (Int × (Int × ByteArray))) → (List (Int × (Int × ByteArray))) → Option Bool
  | 0, _, _ => none
  | n + 1, a1, a2 => (let v3 : Bool := ((a1.length : Int) != (a2.length : Int)); (bif v3 then (some false) else (laws_eqValS_L1 n n a1 a2 (0 : Int))))
/-- loop.example/g00462/laws.eqRow -/
def laws_eqRow : Nat → (List (Int × (Int × ByteArray))) → (List (Int × (Int × ByteArray))) → Option Bool
  | 0, _, _ => none
  | n + 1, a1, a2 => ((laws_eqValS n a1 a2).bind fun r3 => (bif (!r3) then (some false) else (some true)))
def laws_eqRowS_L1 (n : Nat) : Nat → List (List (Int × (Int × ByteArray))) → List (List (Int × (Int × ByteArray))) → Int → Option Bool
  | 0, _, _, _ => none
  | j + 1, x4, x5, x6 => (bif (decide (x6 < (x4.length : Int))) then (bif (inR x6 x4.length) then (let v7 : (List (Int × (Int × ByteArray))) := (x4.getD x6.toNat ([] : (List (Int × (Int × ByteArray))))); (bif (inR x6 x5.length) then (let v8 : (List (Int × (Int × ByteArray))) := (x5.getD x6.toNat ([] : (List (Int × (Int × ByteArray))))); ((laws_eqRow n v7 v8).bind fun r9 => (bif (!r9) then (some false) else (laws_eqRowS_L1 n j x4 x5 (IntKind.wrap .i64 (x6 + (1 : Int))))))) else none)) else none) else (some true))
/-- loop.example/g00462/laws.eqRowS -/
def laws_eqRowS : Nat → (List (List (Int × (Int × ByteArray)))) → (List (List (Int × (Int × ByteArray)))) → Option Bool
  | 0, _, _ => none
  | n + 1, a1, a2 => (let v3 : Bool := ((a1.length : Int) != (a2.length : Int)); (bif v3 then (some false) else (laws_eqRowS_L1 n n a1 a2 (0 : Int))))
/-- loop.example/g00462/laws.FnExactSameRows -/
def laws_FnExactSameRows : Nat → (List (List (Int × (Int × ByteArray)))) → (List (List (Int × (Int × ByteArray)))) → Option Bool
  | 0, _, _ => none
  | n + 1, a1, a2 => ((laws_szRowS n a1 (1048576 : Int)).bind fun r3 => (bif (decide (r3 < (0 : Int))) then (some true) else ((laws_szRowS n a2 r3).bind fun r4 => (bif (decide (r4 < (0 : Int))) then (some true) else ((laws_toRowS n a1).bind fun r5 => ((laws_toRowS n a2).bind fun r6 => ((spec_SameRows n r5 r6).bind fun r7 => ((laws_toRowS n a1).bind fun r8 => ((laws_toRowS n a2).bind fun r9 => ((impl_SameRows n r8 r9).bind fun r10 => (bif (!(r10 == r7)) then (some false) else ((laws_toRowS n a1).bind fun r11 => ((laws_eqRowS n r8 r11).bind fun r12 => (bif (!r12) then (some false) else ((laws_toRowS n a2).bind fun r13 => ((laws_eqRowS n r9 r13).bind fun r14 => (bif (!r14) then (some false) else (some true))))))))))))))))))
end Go.Proofs.Ythfkolhjnioblaa.Ev

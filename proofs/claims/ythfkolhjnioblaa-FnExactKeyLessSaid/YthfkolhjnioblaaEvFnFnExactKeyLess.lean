/- The functions that the law FnExactKeyLess reaches, as typed functions. -/
import Derived.Test.YthfkolhjnioblaaEvCore
set_option linter.all false
namespace Go.Proofs.Ythfkolhjnioblaa.Ev
open Go
/-- loop.example/g00462/laws.szVal -/
def laws_szVal : Nat → Int → Int → ByteArray → Int → Option Int
  | 0, _, _, _, _ => none
  | n + 1, a1, a2, a3, a4 => (let v5 : Int := (IntKind.wrap .i64 (a4 - (a3.size : Int))); (bif (decide (v5 < (0 : Int))) then (some (-1 : Int)) else (some v5)))
def laws_szValS_L1 (n : Nat) : Nat → List (Int × (Int × ByteArray)) → Int → Int → Option Int
  | 0, _, _, _ => none
  | j + 1, x4, x5, x6 => (bif (decide (x6 < (x4.length : Int))) then (bif (inR x6 x4.length) then (let v7 : (Int × (Int × ByteArray)) := (x4.getD x6.toNat ((0 : Int), ((0 : Int), (⟨#[]⟩ : ByteArray)))); ((laws_szVal n v7.1 v7.2.1 v7.2.2 x5).bind fun r8 => (bif (decide (r8 < (0 : Int))) then (some (-1 : Int)) else (laws_szValS_L1 n j x4 r8 (IntKind.wrap .i64 (x6 + (1 : Int))))))) else none) else (some x5))
/-- loop.example/g00462/laws.szValS -/
def laws_szValS : Nat → (List (Int × (Int × ByteArray))) → Int → Option Int
  | 0, _, _ => none
  | n + 1, a1, a2 => (let v3 : Int := (IntKind.wrap .i64 (a2 - (a1.length : Int))); (bif (decide (v3 < (0 : Int))) then (some (-1 : Int)) else (laws_szValS_L1 n n a1 v3 (0 : Int))))
/-- loop.example/g00462/laws.toVal -/
def laws_toVal : Nat → Int → Int → ByteArray → Option (Int × (Int × ByteArray))
  | 0, _, _, _ => none
  | n + 1, a1, a2, a3 => (some (a1, (a2, a3)))
def laws_toValS_L1 (n : Nat) : Nat → List (Int × (Int × ByteArray)) → Int → List (Int × (Int × ByteArray)) → Option (List (Int × (Int × ByteArray)))
  | 0, _, _, _ => none
  | j + 1, x3, x4, x5 => (bif (decide (x4 < (x3.length : Int))) then (bif (inR x4 x3.length) then (let v6 : (Int × (Int × ByteArray)) := (x3.getD x4.toNat ((0 : Int), ((0 : Int), (⟨#[]⟩ : ByteArray)))); ((laws_toVal n v6.1 v6.2.1 v6.2.2).bind fun r7 => (bif (inR x4 x5.length) then (let v8 : List (Int × (Int × ByteArray)) := (x5.set x4.toNat (r7.1, (r7.2.1, r7.2.2))); (laws_toValS_L1 n j x3 (IntKind.wrap .i64 (x4 + (1 : Int))) v8)) else none))) else none) else (some x5))
/-- loop.example/g00462/laws.toValS -/
def laws_toValS : Nat → (List (Int × (Int × ByteArray))) → Option (List (Int × (Int × ByteArray)))
  | 0, _ => none
  | n + 1, a1 => (bif (decide ((a1.length : Int) = (a1.length : Int) ∧ 0 ≤ (a1.length : Int)) && room (a1.length : Int).toNat 32) then (let v2 : List (Int × (Int × ByteArray)) := (List.replicate (a1.length : Int).toNat ((0 : Int), ((0 : Int), (⟨#[]⟩ : ByteArray)))); (laws_toValS_L1 n n a1 (0 : Int) v2)) else none)
/-- loop.example/g00462/spec.l01Num -/
def spec_l01Num : Nat → Int → Option Bool
  | 0, _ => none
  | n + 1, a1 => (bif (decide ((-1099511627775 : Int) ≤ a1)) then (some (decide (a1 ≤ (1099511627775 : Int)))) else (some false))
/-- loop.example/g00462/spec.ValOk -/
def spec_ValOk : Nat → Int → Int → ByteArray → Option Bool
  | 0, _, _, _ => none
  | n + 1, a1, a2, a3 => (bif (a1 == (0 : Int)) then (bif (a2 == (0 : Int)) then (let v4 : Bool := (a3.toList == (⟨#[]⟩ : ByteArray).toList); (some v4)) else (some false)) else (bif (a1 == (1 : Int)) then (bif (a2 == (0 : Int)) then (let v5 : Bool := (a3.toList == (⟨#[]⟩ : ByteArray).toList); (some v5)) else (bif (a2 == (1 : Int)) then (let v6 : Bool := (a3.toList == (⟨#[]⟩ : ByteArray).toList); (some v6)) else (some false))) else (bif (a1 == (2 : Int)) then ((spec_l01Num n a2).bind fun r7 => (bif r7 then (let v8 : Bool := (a3.toList == (⟨#[]⟩ : ByteArray).toList); (some v8)) else (some false))) else (bif (a1 == (3 : Int)) then (bif (a2 == (0 : Int)) then (some (decide ((a3.size : Int) ≤ (30 : Int)))) else (some false)) else (some false)))))
/-- loop.example/g00462/spec.ValLess -/
def spec_ValLess : Nat → Int → Int → ByteArray → Int → Int → ByteArray → Option Bool
  | 0, _, _, _, _, _, _ => none
  | n + 1, a1, a2, a3, a4, a5, a6 => ((spec_ValOk n a1 a2 a3).bind fun r7 => (bif (!r7) then (some false) else ((spec_ValOk n a4 a5 a6).bind fun r8 => (bif (!r8) then (some false) else (bif (a1 != a4) then (some (decide (a1 < a4))) else (bif (decide (a2 < a5)) then (some true) else (bif (a2 == a5) then (some (Op.bytesLess a3.toList a6.toList)) else (some false))))))))
def spec_KeyLess_L1 (n : Nat) : Nat → List (Int × (Int × ByteArray)) → List (Int × (Int × ByteArray)) → Int → Option Bool
  | 0, _, _, _ => none
  | j + 1, x3, x4, x5 => (bif (decide (x5 < (x3.length : Int))) then (bif (decide (x5 < (x4.length : Int))) then (bif (inR x5 x3.length) then (let v6 : (Int × (Int × ByteArray)) := (x3.getD x5.toNat ((0 : Int), ((0 : Int), (⟨#[]⟩ : ByteArray)))); (bif (inR x5 x4.length) then (let v7 : (Int × (Int × ByteArray)) := (x4.getD x5.toNat ((0 : Int), ((0 : Int), (⟨#[]⟩ : ByteArray)))); (let v8 : Bool := (!((v6.1 == v7.1) && ((v6.2.1 == v7.2.1) && ((v6.2.2.toList == v7.2.2.toList) && true)))); (bif v8 then (bif (inR x5 x3.length) then (let v9 : (Int × (Int × ByteArray)) := (x3.getD x5.toNat ((0 : Int), ((0 : Int), (⟨#[]⟩ : ByteArray)))); (bif (inR x5 x4.length) then (let v10 : (Int × (Int × ByteArray)) := (x4.getD x5.toNat ((0 : Int), ((0 : Int), (⟨#[]⟩ : ByteArray)))); ((spec_ValLess n v9.1 v9.2.1 v9.2.2 v10.1 v10.2.1 v10.2.2).bind fun r11 => (some r11))) else none)) else none) else (spec_KeyLess_L1 n j x3 x4 (IntKind.wrap .i64 (x5 + (1 : Int))))))) else none)) else none) else (let v12 : Bool := (decide ((x3.length : Int) < (x4.length : Int))); (some v12))) else (let v13 : Bool := (decide ((x3.length : Int) < (x4.length : Int))); (some v13)))
/-- loop.example/g00462/spec.KeyLess -/
def spec_KeyLess : Nat → (List (Int × (Int × ByteArray))) → (List (Int × (Int × ByteArray))) → Option Bool
  | 0, _, _ => none
  | n + 1, a1, a2 => (spec_KeyLess_L1 n n a1 a2 (0 : Int))
/-- loop.example/g00462/impl.within -/
def impl_within : Nat → Int → Int → Int → Option Bool
  | 0, _, _, _ => none
  | n + 1, a1, a2, a3 => (bif (decide (a2 ≤ a1)) then (some (decide (a1 ≤ a3))) else (some false))
/-- loop.example/g00462/impl.ValOk -/
def impl_ValOk : Nat → Int → Int → ByteArray → Option Bool
  | 0, _, _, _ => none
  | n + 1, a1, a2, a3 => (bif (a1 == (0 : Int)) then (let v4 : Bool := ((a1 == (0 : Int)) && ((a2 == (0 : Int)) && ((a3.toList == (⟨#[]⟩ : ByteArray).toList) && true))); (some v4)) else (bif (a1 == (1 : Int)) then ((impl_within n a2 (0 : Int) (1 : Int)).bind fun r5 => (bif r5 then (let v6 : Bool := (a3.toList == (⟨#[]⟩ : ByteArray).toList); (some v6)) else (some false))) else (bif (a1 == (2 : Int)) then ((impl_within n a2 (-1099511627775 : Int) (1099511627775 : Int)).bind fun r7 => (bif r7 then (let v8 : Bool := (a3.toList == (⟨#[]⟩ : ByteArray).toList); (some v8)) else (some false))) else (bif (a1 == (3 : Int)) then (bif (a2 == (0 : Int)) then (some (decide ((a3.size : Int) ≤ (30 : Int)))) else (some false)) else (some false)))))
/-- loop.example/g00462/impl.ValLess -/
def impl_ValLess : Nat → Int → Int → ByteArray → Int → Int → ByteArray → Option Bool
  | 0, _, _, _, _, _, _ => none
  | n + 1, a1, a2, a3, a4, a5, a6 => ((impl_ValOk n a1 a2 a3).bind fun r7 => (bif (!r7) then (some false) else ((impl_ValOk n a4 a5 a6).bind fun r8 => (bif (!r8) then (some false) else (bif (a1 != a4) then (some (decide (a1 < a4))) else (bif (a2 != a5) then (some (decide (a2 < a5))) else (some (Op.bytesLess a3.toList a6.toList))))))))
def impl_KeyLess_L1 (n : Nat) : Nat → List (Int × (Int × ByteArray)) → List (Int × (Int × ByteArray)) → Int → Option Bool
  | 0, _, _, _ => none
  | j + 1, x3, x4, x5 => (bif (decide (x5 < (x3.length : Int))) then (bif (decide (x5 < (x4.length : Int))) then (bif (inR x5 x3.length) then (let v6 : (Int × (Int × ByteArray)) := (x3.getD x5.toNat ((0 : Int), ((0 : Int), (⟨#[]⟩ : ByteArray)))); (bif (inR x5 x4.length) then (let v7 : (Int × (Int × ByteArray)) := (x4.getD x5.toNat ((0 : Int), ((0 : Int), (⟨#[]⟩ : ByteArray)))); (let v8 : Bool := (!((v6.1 == v7.1) && ((v6.2.1 == v7.2.1) && ((v6.2.2.toList == v7.2.2.toList) && true)))); (bif v8 then (bif (inR x5 x3.length) then (let v9 : (Int × (Int × ByteArray)) := (x3.getD x5.toNat ((0 : Int), ((0 : Int), (⟨#[]⟩ : ByteArray)))); (bif (inR x5 x4.length) then (let v10 : (Int × (Int × ByteArray)) := (x4.getD x5.toNat ((0 : Int), ((0 : Int), (⟨#[]⟩ : ByteArray)))); ((impl_ValLess n v9.1 v9.2.1 v9.2.2 v10.1 v10.2.1 v10.2.2).bind fun r11 => (some r11))) else none)) else none) else (impl_KeyLess_L1 n j x3 x4 (IntKind.wrap .i64 (x5 + (1 : Int))))))) else none)) else none) else (let v12 : Bool := (decide ((x3.length : Int) < (x4.length : Int))); (some v12))) else (let v13 : Bool := (decide ((x3.length : Int) < (x4.length : Int))); (some v13)))
/-- loop.example/g00462/impl.KeyLess -/
def impl_KeyLess : Nat → (List (Int × (Int × ByteArray))) → (List (Int × (Int × ByteArray))) → Option Bool
  | 0, _, _ => none
  | n + 1, a1, a2 => (impl_KeyLess_L1 n n a1 a2 (0 : Int))
/-- loop.example/g00462/laws.eqVal -/
def laws_eqVal : Nat → Int → Int → ByteArray → Int → Int → ByteArray → Option Bool
  | 0, _, _, _, _, _, _ => none
  | n + 1, a1, a2, a3, a4, a5, a6 => (bif (a1 != a4) then (some false) else (bif (a2 != a5) then (some false) else (bif (!(a3.toList == a6.toList)) then (some false) else (some true))))
def laws_eqValS_L1 (n : Nat) : Nat → List (Int × (Int × ByteArray)) → List (Int × (Int × ByteArray)) → Int → Option Bool
  | 0, _, _, _ => none
  | j + 1, x4, x5, x6 => (bif (decide (x6 < (x4.length : Int))) then (bif (inR x6 x4.length) then (let v7 : (Int × (Int × ByteArray)) := (x4.getD x6.toNat ((0 : Int), ((0 : Int), (⟨#[]⟩ : ByteArray)))); (bif (inR x6 x5.length) then (let v8 : (Int × (Int × ByteArray)) := (x5.getD x6.toNat ((0 : Int), ((0 : Int), (⟨#[]⟩ : ByteArray)))); ((laws_eqVal n v7.1 v7.2.1 v7.2.2 v8.1 v8.2.1 v8.2.2).bind fun r9 => (bif (!r9) then (some false) else (laws_eqValS_L1 n j x4 x5 (IntKind.wrap .i64 (x6 + (1 : Int))))))) else none)) else none) else (some true))
/-- loop.example/g00462/laws.eqValS -/
def laws_eqValS : Nat → (List (Int × (Int × ByteArray))) → (List (Int × (Int × ByteArray))) → Option Bool
  | 0, _, _ => none
  | n + 1, a1, a2 => (let v3 : Bool := ((a1.length : Int) != (a2.length : Int)); (bif v3 then (some false) else (laws_eqValS_L1 n n a1 a2 (0 : Int))))
/-- loop.example/g00462/laws.FnExactKeyLess -/
def laws_FnExactKeyLess : Nat → (List (Int × (Int × ByteArray))) → (List (Int × (Int × ByteArray))) → Option Bool
  | 0, _, _ => none
  | n + 1, a1, a2 => ((laws_szValS n a1 (1048576 : Int)).bind fun r3 => (bif (decide (r3 < (0 : Int))) then (some true) else ((laws_szValS n a2 r3).bind fun r4 => (bif (decide (r4 < (0 : Int))) then (some true) else ((laws_toValS n a1).bind fun r5 => ((laws_toValS n a2).bind fun r6 => ((spec_KeyLess n r5 r6).bind fun r7 => ((laws_toValS n a1).bind fun r8 => ((laws_toValS n a2).bind fun r9 => ((impl_KeyLess n r8 r9).bind fun r10 => (bif (!(r10 == r7)) then (some false) else ((laws_toValS n a1).bind fun r11 => ((laws_eqValS n r8 r11).bind fun r12 => (bif (!r12) then (some false) else ((laws_toValS n a2).bind fun r13 => ((laws_eqValS n r9 r13).bind fun r14 => (bif (!r14) then (some false) else (some true))))))))))))))))))
end Go.Proofs.Ythfkolhjnioblaa.Ev

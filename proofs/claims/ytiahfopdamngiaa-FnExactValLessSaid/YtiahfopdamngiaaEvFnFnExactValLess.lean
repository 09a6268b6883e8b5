/- The functions that the law FnExactValLess reaches, as typed functions. -/
import Derived.Test.YtiahfopdamngiaaEvCore
set_option linter.all false
namespace Go.Proofs.Ytiahfopdamngiaa.Ev
open Go
/-- loop.example/g00462/laws.szVal -/
def laws_szVal : Nat → Int → Int → ByteArray → Int → Option Int
  | 0, _, _, _, _ => none
  | n + 1, a1, a2, a3, a4 => (let v5 : Int := (IntKind.wrap .i64 (a4 - (a3.size : Int))); (bif (decide (v5 < (0 : Int))) then (some (-1 : Int)) else (some v5)))
/-- loop.example/g00462/laws.toVal -/
def laws_toVal : Nat → Int → Int → ByteArray → Option (Int × (Int × ByteArray))
  | 0, _, _, _ => none
  | n + 1, a1, a2, a3 => (some (a1, (a2, a3)))
/-- loop.example/g00462/spec.l01Num -/
def spec_l01Num : Nat → Int → Option Bool
  | 0, _ => none
  | n + 1, a1 => (bif (decide ((-1099511627775 : Int) ≤ a1)) then (some (decide (a1 ≤ (1099511627775 : Int)))) else (some false))
/-- loop.example/g00462/spec.ValOk -/
def spec_ValOk : Nat → Int → Int → ByteArray → Option Bool
  | 0, _, _, _ => none
  | n + 1, a1, a2, a3 => (bif (a1 == (0 : Int)) then (bif (a2 == (0 : Int)) then (let v4 : Bool := (a3.toList == (⟨#[]⟩ : ByteArray).toList); (some v4)) else (some false)) else (bif (a1 == (1 : Int)) then (bif (a2 == (0 : Int)) then (let v5 : Bool := (a3.toList == (⟨#[]⟩ : ByteArray).toList); (some v5)) else (bif (a2 == (1 : Int)) then (let v6 : Bool := (a3.toList == (⟨#[]⟩ : ByteArray).toList); (some v6)) else (some false))) else (bif (a1 == (2 : Int)) then ((spec_l01Num n a2).bind fun r7 => (bif r7 then (let v8 : Bool := (a3.toList == (⟨#[]⟩ : ByteArray).toList); (some v8)) else (some false))) else (bif (a1 == (3 : Int)) then (bif (a2 == (0 : Int)) then (some (decide ((a3.size : Int) ≤ (30 : Int)))) else (some false)) else (some false)))))
/-- loop.example/g00462/spec.ValLess -/
def spec_ValLess : Nat → Int → Int → ByteArray → Int → Int → ByteArray → Option Bool
  | 0, _, _, _, _, _, _ => none
  | n + 1, a1, a2, a3, a4, a5, a6 => ((spec_ValOk n a1 a2 a3).bind fun r7 => (bif (!r7) then (some false) else ((spec_ValOk n a4 a5 a6).bind fun r8 => (bif (!r8) then (some false) else (bif (a1 != a4) then (some (decide (a1 < a4))) else (bif (decide (a2 < a5)) then (some true) else (bif (a2 == a5) then (some (Op.bytesLess a3.toList a6.toList)) else (some false))))))))
/-- loop.example/g00462/impl.within -/
def impl_within : Nat → Int → Int → Int → Option Bool
  | 0, _, _, _ => none
  | n + 1, a1, a2, a3 => (bif (decide (a2 ≤ a1)) then (some (decide (a1 ≤ a3))) else (some false))
/-- loop.example/g00462/impl.ValOk -/
def impl_ValOk : Nat → Int → Int → ByteArray → Option Bool
  | 0, _, _, _ => none
  | n + 1, a1, a2, a3 => (bif (a1 == (0 : Int)) then (let v4 : Bool := ((a1 == (0 : Int)) && ((a2 == (0 : Int)) && ((a3.toList == (⟨#[]⟩ : ByteArray).toList) && true))); (some v4)) else (bif (a1 == (1 : Int)) then ((impl_within n a2 (0 : Int) (1 : Int)).bind fun r5 => (bif r5 then (let v6 : Bool := (a3.toList == (⟨#[]⟩ : ByteArray).toList); (some v6)) else (some false))) else (bif (a1 == (2 : Int)) then ((impl_within n a2 (-1099511627775 : Int) (1099511627775 : Int)).bind fun r7 => (bif r7 then (let v8 : Bool := (a3.toList == (⟨#[]⟩ : ByteArray).toList); (some v8)) else (some false))) else (bif (a1 == (3 : Int)) then (bif (a2 == (0 : Int)) then (some (decide ((a3.size : Int) ≤ (30 : Int)))) else (some false)) else (some false)))))
/-- loop.example/g00462/impl.ValLess -/
def impl_ValLess : Nat → Int → Int → ByteArray → Int → Int → ByteArray → Option Bool
  | 0, _, _, _, _, _, _ => none
  | n + 1, a1, a2, a3, a4, a5, a6 => ((impl_ValOk n a1 a2 a3).bind fun r7 => (bif (!r7) then (some false) else ((impl_ValOk n a4 a5 a6).bind fun r8 => (bif (!r8) then (some false) else (bif (a1 != a4) then (some (decide (a1 < a4))) else (bif (a2 != a5) then (some (decide (a2 < a5))) else (some (Op.bytesLess a3.toList a6.toList))))))))
/-- loop.example/g00462/laws.FnExactValLess -/
def laws_FnExactValLess : Nat → Int → Int → ByteArray → Int → Int → ByteArray → Option Bool
  | 0, _, _, _, _, _, _ => none
  | n + 1, a1, a2, a3, a4, a5, a6 => ((laws_szVal n a1 a2 a3 (1048576 : Int)).bind fun r7 => (bif (decide (r7 < (0 : Int))) then (some true) else ((laws_szVal n a4 a5 a6 r7).bind fun r8 => (bif (decide (r8 < (0 : Int))) then (some true) else ((laws_toVal n a1 a2 a3).bind fun r9 => ((laws_toVal n a4 a5 a6).bind fun r10 => ((spec_ValLess n r9.1 r9.2.1 r9.2.2 r10.1 r10.2.1 r10.2.2).bind fun r11 => ((laws_toVal n a1 a2 a3).bind fun r12 => ((laws_toVal n a4 a5 a6).bind fun r13 => ((impl_ValLess n r12.1 r12.2.1 r12.2.2 r13.1 r13.2.1 r13.2.2).bind fun r14 => (bif (!(r14 == r11)) then (some false) else (some true))))))))))))
end Go.Proofs.Ytiahfopdamngiaa.Ev

/- The functions that the law FnExactNumText reaches, as typed functions. -/
import Derived.Test.YtiahfopdamngiaaEvCore
set_option linter.all false
namespace Go.Proofs.Ytiahfopdamngiaa.Ev
open Go
/-- loop.example/g00462/spec.l01Num -/
def spec_l01Num : Nat → Int → Option Bool
  | 0, _ => none
  | n + 1, a1 => (bif (decide ((-1099511627775 : Int) ≤ a1)) then (some (decide (a1 ≤ (1099511627775 : Int)))) else (some false))
/-- loop.example/g00462/spec.NumText -/
def spec_NumText : Nat → Int → Option ByteArray
  | 0, _ => none
  | n + 1, a1 => ((spec_l01Num n a1).bind fun r2 => (bif (!r2) then (some (⟨#[]⟩ : ByteArray)) else (bif (decide (a1 < (0 : Int))) then ((spec_NumText n (IntKind.wrap .i64 (0 - a1))).bind fun r3 => (bif (decide ((⟨#[45]⟩ : ByteArray).size + r3.size ≤ 9223372036854775807)) then (some ((⟨#[45]⟩ : ByteArray) ++ r3)) else none)) else (bif (decide (a1 < (10 : Int))) then (let v4 : Int := (IntKind.wrap .u8 (IntKind.wrap .i64 ((48 : Int) + a1))); (some (strOfNums ([v4] : List Int)))) else (bif (!decide ((10 : Int) = 0)) then (let v5 : Int := (IntKind.wrap .i64 (Int.tdiv a1 (10 : Int))); ((spec_NumText n v5).bind fun r6 => (bif (!decide ((10 : Int) = 0)) then (let v7 : Int := (IntKind.wrap .i64 ((48 : Int) + (Int.tmod a1 (10 : Int)))); (let v8 : ByteArray := (strOfNums ([(IntKind.wrap .u8 v7)] : List Int)); (bif (decide (r6.size + v8.size ≤ 9223372036854775807)) then (some (r6 ++ v8)) else none))) else none))) else none)))))
/-- loop.example/g00462/impl.within -/
def impl_within : Nat → Int → Int → Int → Option Bool
  | 0, _, _, _ => none
  | n + 1, a1, a2, a3 => (bif (decide (a2 ≤ a1)) then (some (decide (a1 ≤ a3))) else (some false))
def impl_NumText_L1 (n : Nat) : Nat → Int → ByteArray → Option ByteArray
  | 0, _, _ => none
  | j + 1, x4, x5 => (bif (decide ((9 : Int) < x4)) then (bif (!decide ((10 : Int) = 0)) then (let v6 : Int := (IntKind.wrap .i64 ((48 : Int) + (Int.tmod x4 (10 : Int)))); (let v7 : ByteArray := (strOfNums ([(IntKind.wrap .u8 v6)] : List Int)); (bif (decide (v7.size + x5.size ≤ 9223372036854775807)) then (bif (!decide ((10 : Int) = 0)) then (let v8 : Int := (IntKind.wrap .i64 (Int.tdiv x4 (10 : Int))); (impl_NumText_L1 n j v8 (v7 ++ x5))) else none) else none))) else none) else (let v9 : Int := (IntKind.wrap .u8 (IntKind.wrap .i64 ((48 : Int) + x4))); (bif (decide ((strOfNums ([v9] : List Int)).size + x5.size ≤ 9223372036854775807)) then (some ((strOfNums ([v9] : List Int)) ++ x5)) else none)))
/-- loop.example/g00462/impl.NumText -/
def impl_NumText : Nat → Int → Option ByteArray
  | 0, _ => none
  | n + 1, a1 => ((impl_within n a1 (-1099511627775 : Int) (1099511627775 : Int)).bind fun r2 => (bif (!r2) then (some (⟨#[]⟩ : ByteArray)) else (bif (decide (a1 < (0 : Int))) then ((impl_NumText n (IntKind.wrap .i64 (0 - a1))).bind fun r3 => (bif (decide ((⟨#[45]⟩ : ByteArray).size + r3.size ≤ 9223372036854775807)) then (some ((⟨#[45]⟩ : ByteArray) ++ r3)) else none)) else (impl_NumText_L1 n n a1 (⟨#[]⟩ : ByteArray)))))
/-- loop.example/g00462/laws.FnExactNumText -/
def laws_FnExactNumText : Nat → Int → Option Bool
  | 0, _ => none
  | n + 1, a1 => ((spec_NumText n a1).bind fun r2 => ((impl_NumText n a1).bind fun r3 => (bif (!(r3.toList == r2.toList)) then (some false) else (some true))))
end Go.Proofs.Ytiahfopdamngiaa.Ev

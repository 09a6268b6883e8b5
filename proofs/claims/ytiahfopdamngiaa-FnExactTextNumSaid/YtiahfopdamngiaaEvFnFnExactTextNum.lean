/- The functions that the law FnExactTextNum reaches, as typed functions. -/
import Derived.Test.YtiahfopdamngiaaEvCore
set_option linter.all false
namespace Go.Proofs.Ytiahfopdamngiaa.Ev
open Go
/-- loop.example/g00462/spec.l01Num -/
def spec_l01Num : Nat → Int → Option Bool
  | 0, _ => none
  | n + 1, a1 => (bif (decide ((-1099511627775 : Int) ≤ a1)) then (some (decide (a1 ≤ (1099511627775 : Int)))) else (some false))
/-- loop.example/g00462/spec.NumText -/
def spec_NumText : Nat → Int → Option ByteArray
  | 0, _ => none
  | n + 1, a1 => ((spec_l01Num n a1).bind fun r2 => (bif (!r2) then (some (⟨#[]⟩ : ByteArray)) else (bif (decide (a1 < (0 : Int))) then ((spec_NumText n (IntKind.wrap .i64 (0 - a1))).bind fun r3 => (bif (decide ((⟨#[45]⟩ : ByteArray).size + r3.size ≤ 9223372036854775807)) then (some ((⟨#[45]⟩ : ByteArray) ++ r3)) else none)) else (bif (decide (a1 < (10 : Int))) then (let v4 : Int := (IntKind.wrap .u8 (IntKind.wrap .i64 ((48 : Int) + a1))); (some (strOfNums ([v4] : List Int)))) else (bif (!decide ((10 : Int) = 0)) then (let v5 : Int := (IntKind.wrap .i64 (Int.tdiv a1 (10 : Int))); ((spec_NumText n v5).bind fun r6 => (bif (!decide ((10 : Int) = 0)) then (let v7 : Int := (IntKind.wrap .i64 ((48 : Int) + (Int.tmod a1 (10 : Int)))); (let v8 : ByteArray := (strOfNums ([(IntKind.wrap .u8 v7)] : List Int)); (bif (decide (r6.size + v8.size ≤ 9223372036854775807)) then (some (r6 ++ v8)) else none))) else none))) else none)))))
def spec_TextNum_L1 (n : Nat) : Nat → ByteArray → Int → Int → Option (Int × (Bool × Unit))
  | 0, _, _, _ => none
  | j + 1, x2, x3, x4 => (bif (decide (x4 < (x2.size : Int))) then (bif (x4 == (0 : Int)) then (bif (inR (0 : Int) x2.size) then (bif ((bt x2 (0 : Int)) == (45 : Int)) then (spec_TextNum_L1 n j x2 x3 (IntKind.wrap .i64 (x4 + (1 : Int)))) else (bif (inR x4 x2.size) then (bif (decide ((bt x2 x4) < (48 : Int))) then (some ((0 : Int), (false, ()))) else (bif (inR x4 x2.size) then (bif (decide ((57 : Int) < (bt x2 x4))) then (some ((0 : Int), (false, ()))) else (bif (inR x4 x2.size) then (let v5 : Int := (IntKind.wrap .u8 ((bt x2 x4) - (48 : Int))); (let v6 : Int := (IntKind.wrap .i64 ((IntKind.wrap .i64 (x3 * (10 : Int))) + (IntKind.wrap .i64 v5))); (spec_TextNum_L1 n j x2 v6 (IntKind.wrap .i64 (x4 + (1 : Int)))))) else none)) else none)) else none)) else none) else (bif (inR x4 x2.size) then (bif (decide ((bt x2 x4) < (48 : Int))) then (some ((0 : Int), (false, ()))) else (bif (inR x4 x2.size) then (bif (decide ((57 : Int) < (bt x2 x4))) then (some ((0 : Int), (false, ()))) else (bif (inR x4 x2.size) then (let v7 : Int := (IntKind.wrap .u8 ((bt x2 x4) - (48 : Int))); (let v8 : Int := (IntKind.wrap .i64 ((IntKind.wrap .i64 (x3 * (10 : Int))) + (IntKind.wrap .i64 v7))); (spec_TextNum_L1 n j x2 v8 (IntKind.wrap .i64 (x4 + (1 : Int)))))) else none)) else none)) else none)) else (bif (inR (0 : Int) x2.size) then (bif ((bt x2 (0 : Int)) == (45 : Int)) then ((spec_NumText n (IntKind.wrap .i64 (0 - x3))).bind fun r9 => (bif (!(r9.toList == x2.toList)) then (some ((0 : Int), (false, ()))) else (some ((IntKind.wrap .i64 (0 - x3)), (true, ()))))) else ((spec_NumText n x3).bind fun r10 => (bif (!(r10.toList == x2.toList)) then (some ((0 : Int), (false, ()))) else (some (x3, (true, ())))))) else none))
/-- loop.example/g00462/spec.TextNum -/
def spec_TextNum : Nat → ByteArray → Option (Int × (Bool × Unit))
  | 0, _ => none
  | n + 1, a1 => (bif (decide ((a1.size : Int) < (1 : Int))) then (some ((0 : Int), (false, ()))) else (bif (decide ((14 : Int) < (a1.size : Int))) then (some ((0 : Int), (false, ()))) else (spec_TextNum_L1 n n a1 (0 : Int) (0 : Int))))
/-- loop.example/g00462/impl.within -/
def impl_within : Nat → Int → Int → Int → Option Bool
  | 0, _, _, _ => none
  | n + 1, a1, a2, a3 => (bif (decide (a2 ≤ a1)) then (some (decide (a1 ≤ a3))) else (some false))
def impl_NumText_L1 (n : Nat) : Nat → Int → ByteArray → Option ByteArray
  | 0, _, _ => none
  | j + 1, x4, x5 => (bif (decide ((9 : Int) < x4)) then (bif (!decide ((10 : Int) = 0)) then (let v6 : Int := (IntKind.wrap .i64 ((48 : Int) + (Int.tmod x4 (10 : Int)))); (let v7 : ByteArray := (strOfNums ([(IntKind.wrap .u8 v6)] : List Int)); (bif (decide (v7.size + x5.size ≤ 9223372036854775807)) then (bif (!decide ((10 : Int) = 0)) then (let v8 : Int := (IntKind.wrap .i64 (Int.tdiv x4 (10 : Int))); (impl_NumText_L1 n j v8 (v7 ++ x5))) else none) else none))) else none) else (let v9 : Int := (IntKind.wrap .u8 (IntKind.wrap .i64 ((48 : Int) + x4))); (bif (decide ((strOfNums ([v9] : List Int)).size + x5.size ≤ 9223372036854775807)) then (some ((strOfNums ([v9] : List Int)) ++ x5)) else none)))
/-- loop.example/g00462/impl.NumText -/
def impl_NumText : Nat → Int → Option ByteArray
  | 0, _ => none
  | n + 1, a1 => ((impl_within n a1 (-1099511627775 : Int) (1099511627775 : Int)).bind fun r2 => (bif (!r2) then (some (⟨#[]⟩ : ByteArray)) else (bif (decide (a1 < (0 : Int))) then ((impl_NumText n (IntKind.wrap .i64 (0 - a1))).bind fun r3 => (bif (decide ((⟨#[45]⟩ : ByteArray).size + r3.size ≤ 9223372036854775807)) then (some ((⟨#[45]⟩ : ByteArray) ++ r3)) else none)) else (impl_NumText_L1 n n a1 (⟨#[]⟩ : ByteArray)))))
def impl_TextNum_L1 (n : Nat) : Nat → ByteArray → Int → Int → Int → Option (Int × (Bool × Unit))
  | 0, _, _, _, _ => none
  | j + 1, x4, x5, x6, x7 => (bif (decide (x7 < (x4.size : Int))) then (bif (inR x7 x4.size) then (bif (decide ((bt x4 x7) < (48 : Int))) then (some ((0 : Int), (false, ()))) else (bif (inR x7 x4.size) then (bif (decide ((57 : Int) < (bt x4 x7))) then (some ((0 : Int), (false, ()))) else (bif (inR x7 x4.size) then (let v8 : Int := (IntKind.wrap .u8 ((bt x4 x7) - (48 : Int))); (let v9 : Int := (IntKind.wrap .i64 ((IntKind.wrap .i64 ((10 : Int) * x6)) + (IntKind.wrap .i64 v8))); (impl_TextNum_L1 n j x4 x5 v9 (IntKind.wrap .i64 (x7 + (1 : Int)))))) else none)) else none)) else none) else (bif (x5 == (1 : Int)) then ((impl_NumText n (IntKind.wrap .i64 (0 - x6))).bind fun r10 => (bif (!(r10.toList == x4.toList)) then (some ((0 : Int), (false, ()))) else (some ((IntKind.wrap .i64 (0 - x6)), (true, ()))))) else ((impl_NumText n x6).bind fun r11 => (bif (!(r11.toList == x4.toList)) then (some ((0 : Int), (false, ()))) else (some (x6, (true, ())))))))
/-- loop.example/g00462/impl.TextNum -/
def impl_TextNum : Nat → ByteArray → Option (Int × (Bool × Unit))
  | 0, _ => none
  | n + 1, a1 => (bif (decide ((0 : Int) < (a1.size : Int))) then (bif (inR (0 : Int) a1.size) then (bif ((bt a1 (0 : Int)) == (45 : Int)) then (let v2 : Int := (IntKind.wrap .i64 ((a1.size : Int) - (1 : Int))); ((impl_within n v2 (1 : Int) (13 : Int)).bind fun r3 => (bif (!r3) then (some ((0 : Int), (false, ()))) else (impl_TextNum_L1 n n a1 (1 : Int) (0 : Int) (1 : Int))))) else (let v12 : Int := (IntKind.wrap .i64 ((a1.size : Int) - (0 : Int))); ((impl_within n v12 (1 : Int) (13 : Int)).bind fun r13 => (bif (!r13) then (some ((0 : Int), (false, ()))) else (impl_TextNum_L1 n n a1 (0 : Int) (0 : Int) (0 : Int)))))) else none) else (let v14 : Int := (IntKind.wrap .i64 ((a1.size : Int) - (0 : Int))); ((impl_within n v14 (1 : Int) (13 : Int)).bind fun r15 => (bif (!r15) then (some ((0 : Int), (false, ()))) else (impl_TextNum_L1 n n a1 (0 : Int) (0 : Int) (0 : Int))))))
/-- loop.example/g00462/laws.FnExactTextNum -/
def laws_FnExactTextNum : Nat → ByteArray → Option Bool
  | 0, _ => none
  | n + 1, a1 => (let v2 : Bool := (decide ((1048576 : Int) < (a1.size : Int))); (bif v2 then (some true) else ((spec_TextNum n a1).bind fun r3 => ((impl_TextNum n a1).bind fun r4 => (bif (r4.1 != r3.1) then (some false) else (bif (!(r4.2.1 == r3.2.1)) then (some false) else (some true)))))))
end Go.Proofs.Ytiahfopdamngiaa.Ev

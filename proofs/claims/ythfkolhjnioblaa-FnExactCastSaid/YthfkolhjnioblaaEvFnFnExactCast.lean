/- The functions that the law FnExactCast reaches, as typed functions. -/
import Derived.Test.YthfkolhjnioblaaEvCore
set_option linter.all false
namespace Go.Proofs.Ythfkolhjnioblaa.Ev
open Go
/-- loop.example/g00462/laws.szVal -/
def laws_szVal : Nat → Int → Int → ByteArray → Int → Option Int
  | 0, _, _, _, _ => none
  | n + 1, a1, a2, a3, a4 => (let v5 : Int := (IntKind.wrap .i64 (a4 - (a3.size : Int))); (bif (decide (v5 < (0 : Int))) then (some (-1 : Int)) else (some v5)))
/-- loop.example/g00462/laws.toVal -/
def laws_toVal : Nat → Int → Int → ByteArray → Option (Int × (Int × ByteArray))
  | 0, _, _, _ => none
  | n + 1, a1, a2, a3 => (some (a1, (a2, a3)))
/-- loop.example/g00462/spec.l01Num -/
def spec_l01Num : Nat → Int → Option Bool
  | 0, _ => none
  | n + 1, a1 => (bif (decide ((-1099511627775 : Int) ≤ a1)) then (some (decide (a1 ≤ (1099511627775 : Int)))) else (some false))
/-- loop.example/g00462/spec.ValOk -/
def spec_ValOk : Nat → Int → Int → ByteArray → Option Bool
  | 0, _, _, _ => none
  | n + 1, a1, a2, a3 => (bif (a1 == (0 : Int)) then (bif (a2 == (0 : Int)) then (let v4 : Bool := (a3.toList == (⟨#[]⟩ : ByteArray).toList); (some v4)) else (some false)) else (bif (a1 == (1 : Int)) then (bif (a2 == (0 : Int)) then (let v5 : Bool := (a3.toList == (⟨#[]⟩ : ByteArray).toList); (some v5)) else (bif (a2 == (1 : Int)) then (let v6 : Bool := (a3.toList == (⟨#[]⟩ : ByteArray).toList); (some v6)) else (some false))) else (bif (a1 == (2 : Int)) then ((spec_l01Num n a2).bind fun r7 => (bif r7 then (let v8 : Bool := (a3.toList == (⟨#[]⟩ : ByteArray).toList); (some v8)) else (some false))) else (bif (a1 == (3 : Int)) then (bif (a2 == (0 : Int)) then (some (decide ((a3.size : Int) ≤ (30 : Int)))) else (some false)) else (some false)))))
/-- loop.example/g00462/spec.NumText -/
def spec_NumText : Nat → Int → Option ByteArray
  | 0, _ => none
  | n + 1, a1 => ((spec_l01Num n a1).bind fun r2 => (bif (!r2) then (some (⟨#[]⟩ : ByteArray)) else (bif (decide (a1 < (0 : Int))) then ((spec_NumText n (IntKind.wrap .i64 (0 - a1))).bind fun r3 => (bif (decide ((⟨#[45]⟩ : ByteArray).size + r3.size ≤ 9223372036854775807)) then (some ((⟨#[45]⟩ : ByteArray) ++ r3)) else none)) else (bif (decide (a1 < (10 : Int))) then (let v4 : Int := (IntKind.wrap .u8 (IntKind.wrap .i64 ((48 : Int) + a1))); (some (strOfNums ([v4] : List Int)))) else (bif (!decide ((10 : Int) = 0)) then (let v5 : Int := (IntKind.wrap .i64 (Int.tdiv a1 (10 : Int))); ((spec_NumText n v5).bind fun r6 => (bif (!decide ((10 : Int) = 0)) then (let v7 : Int := (IntKind.wrap .i64 ((48 : Int) + (Int.tmod a1 (10 : Int)))); (let v8 : ByteArray := (strOfNums ([(IntKind.wrap .u8 v7)] : List Int)); (bif (decide (r6.size + v8.size ≤ 9223372036854775807)) then (some (r6 ++ v8)) else none))) else none))) else none)))))
/-- loop.example/g00462/spec.l01Bool -/
def spec_l01Bool : Nat → Int → Option ByteArray
  | 0, _ => none
  | n + 1, a1 => (bif (a1 == (1 : Int)) then (some (⟨#[116, 114, 117, 101]⟩ : ByteArray)) else (some (⟨#[102, 97, 108, 115, 101]⟩ : ByteArray)))
def spec_TextNum_L1 (n : Nat) : Nat → ByteArray → Int → Int → Option (Int × (Bool × Unit))
  | 0, _, _, _ => none
  | j + 1, x2, x3, x4 => (bif (decide (x4 < (x2.size : Int))) then (bif (x4 == (0 : Int)) then (bif (inR (0 : Int) x2.size) then (bif ((bt x2 (0 : Int)) == (45 : Int)) then (spec_TextNum_L1 n j x2 x3 (IntKind.wrap .i64 (x4 + (1 : Int)))) else (bif (inR x4 x2.size) then (bif (decide ((bt x2 x4) < (48 : Int))) then (some ((0 : Int), (false, ()))) else (bif (inR x4 x2.size) then (bif (decide ((57 : Int) < (bt x2 x4))) then (some ((0 : Int), (false, ()))) else (bif (inR x4 x2.size) then (let v5 : Int := (IntKind.wrap .u8 ((bt x2 x4) - (48 : Int))); (let v6 : Int := (IntKind.wrap .i64 ((IntKind.wrap .i64 (x3 * (10 : Int))) + (IntKind.wrap .i64 v5))); (spec_TextNum_L1 n j x2 v6 (IntKind.wrap .i64 (x4 + (1 : Int)))))) else none)) else none)) else none)) else none) else (bif (inR x4 x2.size) then (bif (decide ((bt x2 x4) < (48 : Int))) then (some ((0 : Int), (false, ()))) else (bif (inR x4 x2.size) then (bif (decide ((57 : Int) < (bt x2 x4))) then (some ((0 : Int), (false, ()))) else (bif (inR x4 x2.size) then (let v7 : Int := (IntKind.wrap .u8 ((bt x2 x4) - (48 : Int))); (let v8 : Int := (IntKind.wrap .i64 ((IntKind.wrap .i64 (x3 * (10 : Int))) + (IntKind.wrap .i64 v7))); (spec_TextNum_L1 n j x2 v8 (IntKind.wrap .i64 (x4 + (1 : Int)))))) else none)) else none)) else none)) else (bif (inR (0 : Int) x2.size) then (bif ((bt x2 (0 : Int)) == (45 : Int)) then ((spec_NumText n (IntKind.wrap .i64 (0 - x3))).bind fun r9 => (bif (!(r9.toList == x2.toList)) then (some ((0 : Int), (false, ()))) else (some ((IntKind.wrap .i64 (0 - x3)), (true, ()))))) else ((spec_NumText n x3).bind fun r10 => (bif (!(r10.toList == x2.toList)) then (some ((0 : Int), (false, ()))) else (some (x3, (true, ())))))) else none))
/-- loop.example/g00462/spec.TextNum -/
def spec_TextNum : Nat → ByteArray → Option (Int × (Bool × Unit))
  | 0, _ => none
  | n + 1, a1 => (bif (decide ((a1.size : Int) < (1 : Int))) then (some ((0 : Int), (false, ()))) else (bif (decide ((14 : Int) < (a1.size : Int))) then (some ((0 : Int), (false, ()))) else (spec_TextNum_L1 n n a1 (0 : Int) (0 : Int))))
/-- loop.example/g00462/spec.Cast -/
def spec_Cast : Nat → Int → Int → ByteArray → Int → Option ((Int × (Int × ByteArray)) × (Bool × Unit))
  | 0, _, _, _, _ => none
  | n + 1, a1, a2, a3, a4 => ((spec_ValOk n a1 a2 a3).bind fun r5 => (bif (!r5) then (some (((0 : Int), ((0 : Int), (⟨#[]⟩ : ByteArray))), (false, ()))) else (bif (decide (a4 < (1 : Int))) then (some (((0 : Int), ((0 : Int), (⟨#[]⟩ : ByteArray))), (false, ()))) else (bif (decide ((3 : Int) < a4)) then (some (((0 : Int), ((0 : Int), (⟨#[]⟩ : ByteArray))), (false, ()))) else (bif (a1 == (0 : Int)) then (some ((a1, (a2, a3)), (true, ()))) else (bif (a1 == a4) then (some ((a1, (a2, a3)), (true, ()))) else (bif (a4 == (3 : Int)) then ((spec_NumText n a2).bind fun r6 => (bif (a1 == (1 : Int)) then ((spec_l01Bool n a2).bind fun r7 => ((spec_ValOk n a4 (0 : Int) r7).bind fun r8 => (bif (!r8) then (some (((0 : Int), ((0 : Int), (⟨#[]⟩ : ByteArray))), (false, ()))) else (some ((a4, ((0 : Int), r7)), (true, ())))))) else ((spec_ValOk n a4 (0 : Int) r6).bind fun r9 => (bif (!r9) then (some (((0 : Int), ((0 : Int), (⟨#[]⟩ : ByteArray))), (false, ()))) else (some ((a4, ((0 : Int), r6)), (true, ()))))))) else (bif (a1 == (3 : Int)) then (bif (a4 == (1 : Int)) then (let v10 : Bool := (a3.toList == (⟨#[116, 114, 117, 101]⟩ : ByteArray).toList); (bif v10 then ((spec_ValOk n a4 (1 : Int) (⟨#[]⟩ : ByteArray)).bind fun r11 => (bif (!r11) then (some (((0 : Int), ((0 : Int), (⟨#[]⟩ : ByteArray))), (false, ()))) else (some ((a4, ((1 : Int), (⟨#[]⟩ : ByteArray))), (true, ()))))) else (let v12 : Bool := (!(a3.toList == (⟨#[102, 97, 108, 115, 101]⟩ : ByteArray).toList)); (bif v12 then (some (((0 : Int), ((0 : Int), (⟨#[]⟩ : ByteArray))), (false, ()))) else ((spec_ValOk n a4 (0 : Int) (⟨#[]⟩ : ByteArray)).bind fun r13 => (bif (!r13) then (some (((0 : Int), ((0 : Int), (⟨#[]⟩ : ByteArray))), (false, ()))) else (some ((a4, ((0 : Int), (⟨#[]⟩ : ByteArray))), (true, ()))))))))) else (bif (a1 == (3 : Int)) then ((spec_TextNum n a3).bind fun r14 => (bif (!r14.2.1) then (some (((0 : Int), ((0 : Int), (⟨#[]⟩ : ByteArray))), (false, ()))) else ((spec_ValOk n a4 r14.1 (⟨#[]⟩ : ByteArray)).bind fun r15 => (bif (!r15) then (some (((0 : Int), ((0 : Int), (⟨#[]⟩ : ByteArray))), (false, ()))) else (some ((a4, (r14.1, (⟨#[]⟩ : ByteArray))), (true, ()))))))) else ((spec_ValOk n a4 a2 (⟨#[]⟩ : ByteArray)).bind fun r16 => (bif (!r16) then (some (((0 : Int), ((0 : Int), (⟨#[]⟩ : ByteArray))), (false, ()))) else (some ((a4, (a2, (⟨#[]⟩ : ByteArray))), (true, ()))))))) else (bif (a1 == (3 : Int)) then ((spec_TextNum n a3).bind fun r17 => (bif (!r17.2.1) then (some (((0 : Int), ((0 : Int), (⟨#[]⟩ : ByteArray))), (false, ()))) else ((spec_ValOk n a4 r17.1 (⟨#[]⟩ : ByteArray)).bind fun r18 => (bif (!r18) then (some (((0 : Int), ((0 : Int), (⟨#[]⟩ : ByteArray))), (false, ()))) else (some ((a4, (r17.1, (⟨#[]⟩ : ByteArray))), (true, ()))))))) else ((spec_ValOk n a4 a2 (⟨#[]⟩ : ByteArray)).bind fun r19 => (bif (!r19) then (some (((0 : Int), ((0 : Int), (⟨#[]⟩ : ByteArray))), (false, ()))) else (some ((a4, (a2, (⟨#[]⟩ : ByteArray))), (true, ()))))))))))))))
/-- loop.example/g00462/impl.within -/
def impl_within : Nat → Int → Int → Int → Option Bool
  | 0, _, _, _ => none
  | n + 1, a1, a2, a3 => (bif (decide (a2 ≤ a1)) then (some (decide (a1 ≤ a3))) else (some false))
/-- loop.example/g00462/impl.ValOk -/
def impl_ValOk : Nat → Int → Int → ByteArray → Option Bool
  | 0, _, _, _ => none
  | n + 1, a1, a2, a3 => (bif (a1 == (0 : Int)) then (let v4 : Bool := ((a1 == (0 : Int)) && ((a2 == (0 : Int)) && ((a3.toList == (⟨#[]⟩ : ByteArray).toList) && true))); (some v4)) else (bif (a1 == (1 : Int)) then ((impl_within n a2 (0 : Int) (1 : Int)).bind fun r5 => (bif r5 then (let v6 : Bool := (a3.toList == (⟨#[]⟩ : ByteArray).toList); (some v6)) else (some false))) else (bif (a1 == (2 : Int)) then ((impl_within n a2 (-1099511627775 : Int) (1099511627775 : Int)).bind fun r7 => (bif r7 then (let v8 : Bool := (a3.toList == (⟨#[]⟩ : ByteArray).toList); (some v8)) else (some false))) else (bif (a1 == (3 : Int)) then (bif (a2 == (0 : Int)) then (some (decide ((a3.size : Int) ≤ (30 : Int)))) else (some false)) else (some false)))))
/-- loop.example/g00462/impl.boolText -/
def impl_boolText : Nat → Int → Option ByteArray
  | 0, _ => none
  | n + 1, a1 => (bif (a1 == (1 : Int)) then (some (⟨#[116, 114, 117, 101]⟩ : ByteArray)) else (some (⟨#[102, 97, 108, 115, 101]⟩ : ByteArray)))
def impl_NumText_L1 (n : Nat) : Nat → Int → ByteArray → Option ByteArray
  | 0, _, _ => none
  | j + 1, x4, x5 => (bif (decide ((9 : Int) < x4)) then (bif (!decide ((10 : Int) = 0)) then (let v6 : Int := (IntKind.wrap .i64 ((48 : Int) + (Int.tmod x4 (10 : Int)))); (let v7 : ByteArray := (strOfNums ([(IntKind.wrap .u8 v6)] : List Int)); (bif (decide (v7.size + x5.size ≤ 9223372036854775807)) then (bif (!decide ((10 : Int) = 0)) then (let v8 : Int := (IntKind.wrap .i64 (Int.tdiv x4 (10 : Int))); (impl_NumText_L1 n j v8 (v7 ++ x5))) else none) else none))) else none) else (let v9 : Int := (IntKind.wrap .u8 (IntKind.wrap .i64 ((48 : Int) + x4))); (bif (decide ((strOfNums ([v9] : List Int)).size + x5.size ≤ 9223372036854775807)) then (some ((strOfNums ([v9] : List Int)) ++ x5)) else none)))
/-- loop.example/g00462/impl.NumText -/
def impl_NumText : Nat → Int → Option ByteArray
  | 0, _ => none
  | n + 1, a1 => ((impl_within n a1 (-1099511627775 : Int) (1099511627775 : Int)).bind fun r2 => (bif (!r2) then (some (⟨#[]⟩ : ByteArray)) else (bif (decide (a1 < (0 : Int))) then ((impl_NumText n (IntKind.wrap .i64 (0 - a1))).bind fun r3 => (bif (decide ((⟨#[45]⟩ : ByteArray).size + r3.size ≤ 9223372036854775807)) then (some ((⟨#[45]⟩ : ByteArray) ++ r3)) else none)) else (impl_NumText_L1 n n a1 (⟨#[]⟩ : ByteArray)))))
def impl_TextNum_L1 (n : Nat) : Nat → ByteArray → Int → Int → Int → Option (Int × (Bool × Unit))
  | 0, _, _, _, _ => none
  | j + 1, x4, x5, x6, x7 => (bif (decide (x7 < (x4.size : Int))) then (bif (inR x7 x4.size) then (bif (decide ((bt x4 x7) < (48 : Int))) then (some ((0 : Int), (false, ()))) else (bif (inR x7 x4.size) then (bif (decide ((57 : Int) < (bt x4 x7))) then (some ((0 : Int), (false, ()))) else (bif (inR x7 x4.size) then (let v8 : Int := (IntKind.wrap .u8 ((bt x4 x7) - (48 : Int))); (let v9 : Int := (IntKind.wrap .i64 ((IntKind.wrap .i64 ((10 : Int) * x6)) + (IntKind.wrap .i64 v8))); (impl_TextNum_L1 n j x4 x5 v9 (IntKind.wrap .i64 (x7 + (1 : Int)))))) else none)) else none)) else none) else (bif (x5 == (1 : Int)) then ((impl_NumText n (IntKind.wrap .i64 (0 - x6))).bind fun r10 => (bif (!(r10.toList == x4.toList)) then (some ((0 : Int), (false, ()))) else (some ((IntKind.wrap .i64 (0 - x6)), (true, ()))))) else ((impl_NumText n x6).bind fun r11 => (bif (!(r11.toList == x4.toList)) then (some ((0 : Int), (false, ()))) else (some (x6, (true, ())))))))
/-- loop.example/g00462/impl.TextNum -/
def impl_TextNum : Nat → ByteArray → Option (Int × (Bool × Unit))
  | 0, _ => none
  | n + 1, a1 => (bif (decide ((0 : Int) < (a1.size : Int))) then (bif (inR (0 : Int) a1.size) then (bif ((bt a1 (0 : Int)) == (45 : Int)) then (let v2 : Int := (IntKind.wrap .i64 ((a1.size : Int) - (1 : Int))); ((impl_within n v2 (1 : Int) (13 : Int)).bind fun r3 => (bif (!r3) then (some ((0 : Int), (false, ()))) else (impl_TextNum_L1 n n a1 (1 : Int) (0 : Int) (1 : Int))))) else (let v12 : Int := (IntKind.wrap .i64 ((a1.size : Int) - (0 : Int))); ((impl_within n v12 (1 : Int) (13 : Int)).bind fun r13 => (bif (!r13) then (some ((0 : Int), (false, ()))) else (impl_TextNum_L1 n n a1 (0 : Int) (0 : Int) (0 : Int)))))) else none) else (let v14 : Int := (IntKind.wrap .i64 ((a1.size : Int) - (0 : Int))); ((impl_within n v14 (1 : Int) (13 : Int)).bind fun r15 => (bif (!r15) then (some ((0 : Int), (false, ()))) else (impl_TextNum_L1 n n a1 (0 : Int) (0 : Int) (0 : Int))))))
def impl_Cast_K7 (n : Nat) : Nat → Int → Int → ByteArray → Option ((Int × (Int × ByteArray)) × (Bool × Unit))
  | 0, _, _, _ => none
  | j + 1, x60, x61, x62 => (some (((0 : Int), ((0 : Int), (⟨#[]⟩ : ByteArray))), (false, ())))
def impl_Cast_K6 (n : Nat) : Nat → Int → Bool → Int → Int → ByteArray → Int → Int → ByteArray → Option ((Int × (Int × ByteArray)) × (Bool × Unit))
  | 0, _, _, _, _, _, _, _, _ => none
  | j + 1, x51, x52, x53, x54, x55, x56, x57, x58 => (bif x52 then ((impl_TextNum n x55).bind fun r59 => (bif r59.2.1 then (some ((x51, (r59.1, (⟨#[]⟩ : ByteArray))), (true, ()))) else (impl_Cast_K7 n 1 x56 x57 x58))) else (impl_Cast_K7 n 1 x56 x57 x58))
def impl_Cast_K5 (n : Nat) : Nat → Int → Bool → Int → Int → ByteArray → Int → Int → ByteArray → Option ((Int × (Int × ByteArray)) × (Bool × Unit))
  | 0, _, _, _, _, _, _, _, _ => none
  | j + 1, x43, x44, x45, x46, x47, x48, x49, x50 => (bif x44 then (some ((x43, ((0 : Int), (⟨#[]⟩ : ByteArray))), (true, ()))) else (bif (x45 == (3 : Int)) then (impl_Cast_K6 n 1 x43 (x43 == (2 : Int)) x45 x46 x47 x48 x49 x50) else (impl_Cast_K6 n 1 x43 false x45 x46 x47 x48 x49 x50)))
def impl_Cast_K4 (n : Nat) : Nat → Int → Bool → Int → Int → ByteArray → Int → Int → ByteArray → Option ((Int × (Int × ByteArray)) × (Bool × Unit))
  | 0, _, _, _, _, _, _, _, _ => none
  | j + 1, x34, x35, x36, x37, x38, x39, x40, x41 => (bif x35 then (some ((x34, ((1 : Int), (⟨#[]⟩ : ByteArray))), (true, ()))) else (bif (x34 == (1 : Int)) then (let v42 : Bool := (x38.toList == (⟨#[102, 97, 108, 115, 101]⟩ : ByteArray).toList); (impl_Cast_K5 n 1 x34 v42 x36 x37 x38 x39 x40 x41)) else (impl_Cast_K5 n 1 x34 false x36 x37 x38 x39 x40 x41)))
def impl_Cast_K3 (n : Nat) : Nat → Int → Bool → Int → Int → ByteArray → Int → Int → ByteArray → Option ((Int × (Int × ByteArray)) × (Bool × Unit))
  | 0, _, _, _, _, _, _, _, _ => none
  | j + 1, x24, x25, x26, x27, x28, x29, x30, x31 => (bif x25 then ((impl_NumText n x27).bind fun r32 => (some ((x24, ((0 : Int), r32)), (true, ())))) else (bif (x24 == (1 : Int)) then (let v33 : Bool := (x28.toList == (⟨#[116, 114, 117, 101]⟩ : ByteArray).toList); (impl_Cast_K4 n 1 x24 v33 x26 x27 x28 x29 x30 x31)) else (impl_Cast_K4 n 1 x24 false x26 x27 x28 x29 x30 x31)))
def impl_Cast_K2 (n : Nat) : Nat → Int → Bool → Int → Int → ByteArray → Int → Int → ByteArray → Option ((Int × (Int × ByteArray)) × (Bool × Unit))
  | 0, _, _, _, _, _, _, _, _ => none
  | j + 1, x15, x16, x17, x18, x19, x20, x21, x22 => (bif x16 then ((impl_boolText n x18).bind fun r23 => (some ((x15, ((0 : Int), r23)), (true, ())))) else (bif (x17 == (2 : Int)) then (impl_Cast_K3 n 1 x15 (x15 == (3 : Int)) x17 x18 x19 x20 x21 x22) else (impl_Cast_K3 n 1 x15 false x17 x18 x19 x20 x21 x22)))
def impl_Cast_K1 (n : Nat) : Nat → Int → Bool → Int → Int → ByteArray → Int → Int → ByteArray → Option ((Int × (Int × ByteArray)) × (Bool × Unit))
  | 0, _, _, _, _, _, _, _, _ => none
  | j + 1, x7, x8, x9, x10, x11, x12, x13, x14 => (bif x8 then (some ((x7, (x10, (⟨#[]⟩ : ByteArray))), (true, ()))) else (bif (x9 == (1 : Int)) then (impl_Cast_K2 n 1 x7 (x7 == (3 : Int)) x9 x10 x11 x12 x13 x14) else (impl_Cast_K2 n 1 x7 false x9 x10 x11 x12 x13 x14)))
/-- loop.example/g00462/impl.Cast -/
def impl_Cast : Nat → Int → Int → ByteArray → Int → Option ((Int × (Int × ByteArray)) × (Bool × Unit))
  | 0, _, _, _, _ => none
  | n + 1, a1, a2, a3, a4 => ((impl_ValOk n a1 a2 a3).bind fun r5 => (bif (!r5) then (some (((0 : Int), ((0 : Int), (⟨#[]⟩ : ByteArray))), (false, ()))) else ((impl_within n a4 (1 : Int) (3 : Int)).bind fun r6 => (bif (!r6) then (some (((0 : Int), ((0 : Int), (⟨#[]⟩ : ByteArray))), (false, ()))) else (bif (a1 == (0 : Int)) then (some ((a1, (a2, a3)), (true, ()))) else (bif (a1 == a4) then (some ((a1, (a2, a3)), (true, ()))) else (bif (a1 == (1 : Int)) then (bif (a4 == (2 : Int)) then (impl_Cast_K1 n 1 a4 true a1 a2 a3 (0 : Int) (0 : Int) (⟨#[]⟩ : ByteArray)) else (bif (a1 == (2 : Int)) then (bif (a4 == (1 : Int)) then ((impl_within n a2 (0 : Int) (1 : Int)).bind fun r63 => (impl_Cast_K1 n 1 a4 r63 a1 a2 a3 (0 : Int) (0 : Int) (⟨#[]⟩ : ByteArray))) else (impl_Cast_K1 n 1 a4 false a1 a2 a3 (0 : Int) (0 : Int) (⟨#[]⟩ : ByteArray))) else (impl_Cast_K1 n 1 a4 false a1 a2 a3 (0 : Int) (0 : Int) (⟨#[]⟩ : ByteArray)))) else (bif (a1 == (2 : Int)) then (bif (a4 == (1 : Int)) then ((impl_within n a2 (0 : Int) (1 : Int)).bind fun r64 => (impl_Cast_K1 n 1 a4 r64 a1 a2 a3 (0 : Int) (0 : Int) (⟨#[]⟩ : ByteArray))) else (impl_Cast_K1 n 1 a4 false a1 a2 a3 (0 : Int) (0 : Int) (⟨#[]⟩ : ByteArray))) else (impl_Cast_K1 n 1 a4 false a1 a2 a3 (0 : Int) (0 : Int) (⟨#[]⟩ : ByteArray))))))))))
/-- loop.example/g00462/laws.eqVal -/
def laws_eqVal : Nat → Int → Int → ByteArray → Int → Int → ByteArray → Option Bool
  | 0, _, _, _, _, _, _ => none
  | n + 1, a1, a2, a3, a4, a5, a6 => (bif (a1 != a4) then (some false) else (bif (a2 != a5) then (some false) else (bif (!(a3.toList == a6.toList)) then (some false) else (some true))))
/-- loop.example/g00462/laws.FnExactCast -/
def laws_FnExactCast : Nat → Int → Int → ByteArray → Int → Option Bool
  | 0, _, _, _, _ => none
  | n + 1, a1, a2, a3, a4 => ((laws_szVal n a1 a2 a3 (1048576 : Int)).bind fun r5 => (bif (decide (r5 < (0 : Int))) then (some true) else ((laws_toVal n a1 a2 a3).bind fun r6 => ((spec_Cast n r6.1 r6.2.1 r6.2.2 a4).bind fun r7 => ((laws_toVal n a1 a2 a3).bind fun r8 => ((impl_Cast n r8.1 r8.2.1 r8.2.2 a4).bind fun r9 => ((laws_eqVal n r9.1.1 r9.1.2.1 r9.1.2.2 r7.1.1 r7.1.2.1 r7.1.2.2).bind fun r10 => (bif (!r10) then (some false) else (bif (!(r9.2.1 == r7.2.1)) then (some false) else (some true))))))))))
end Go.Proofs.Ythfkolhjnioblaa.Ev

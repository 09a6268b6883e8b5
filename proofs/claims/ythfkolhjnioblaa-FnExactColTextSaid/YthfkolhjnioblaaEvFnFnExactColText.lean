/- The functions that the law FnExactColText reaches, as typed functions. -/
import Derived.Test.YthfkolhjnioblaaEvCore
set_option linter.all false
namespace Go.Proofs.Ythfkolhjnioblaa.Ev
open Go
/-- loop.example/g00462/laws.szVal -/
def laws_szVal : Nat → Int → Int → ByteArray → Int → Option Int
  | 0, _, _, _, _ => none
  | n + 1, a1, a2, a3, a4 => (let v5 : Int := (IntKind.wrap .i64 (a4 - (a3.size : Int))); (bif (decide (v5 < (0 : Int))) then (some (-1 : Int)) else (some v5)))
/-- loop.example/g00462/laws.szCol -/
def laws_szCol : Nat → ByteArray → Int → Bool → Bool → Int → Int → ByteArray → Int → Option Int
  | 0, _, _, _, _, _, _, _, _ => none
  | n + 1, a1, a2, a3, a4, a5, a6, a7, a8 => (let v9 : Int := (IntKind.wrap .i64 (a8 - (a1.size : Int))); (bif (decide (v9 < (0 : Int))) then (some (-1 : Int)) else ((laws_szVal n a5 a6 a7 v9).bind fun r10 => (bif (decide (r10 < (0 : Int))) then (some (-1 : Int)) else (some r10)))))
/-- loop.example/g00462/laws.toVal -/
def laws_toVal : Nat → Int → Int → ByteArray → Option (Int × (Int × ByteArray))
  | 0, _, _, _ => none
  | n + 1, a1, a2, a3 => (some (a1, (a2, a3)))
/-- loop.example/g00462/laws.toCol -/
def laws_toCol : Nat → ByteArray → Int → Bool → Bool → Int → Int → ByteArray → Option (ByteArray × (Int × (Bool × (Bool × (Int × (Int × ByteArray))))))
  | 0, _, _, _, _, _, _, _ => none
  | n + 1, a1, a2, a3, a4, a5, a6, a7 => ((laws_toVal n a5 a6 a7).bind fun r8 => (some (a1, (a2, (a3, (a4, (r8.1, (r8.2.1, r8.2.2))))))))
def spec_WordOk_L1 (n : Nat) : Nat → ByteArray → Int → Option Bool
  | 0, _, _ => none
  | j + 1, x2, x3 => (bif (decide (x3 < (x2.size : Int))) then (bif (inR x3 x2.size) then (bif (decide ((bt x2 x3) < (97 : Int))) then (some false) else (bif (inR x3 x2.size) then (bif (decide ((122 : Int) < (bt x2 x3))) then (some false) else (spec_WordOk_L1 n j x2 (IntKind.wrap .i64 (x3 + (1 : Int))))) else none)) else none) else (bif (decide ((1 : Int) ≤ (x2.size : Int))) then (some (decide ((x2.size : Int) ≤ (8 : Int)))) else (some false)))
/-- loop.example/g00462/spec.WordOk -/
def spec_WordOk : Nat → ByteArray → Option Bool
  | 0, _ => none
  | n + 1, a1 => (spec_WordOk_L1 n n a1 (0 : Int))
/-- loop.example/g00462/spec.l01Num -/
def spec_l01Num : Nat → Int → Option Bool
  | 0, _ => none
  | n + 1, a1 => (bif (decide ((-1099511627775 : Int) ≤ a1)) then (some (decide (a1 ≤ (1099511627775 : Int)))) else (some false))
/-- loop.example/g00462/spec.ValOk -/
def spec_ValOk : Nat → Int → Int → ByteArray → Option Bool
  | 0, _, _, _ => none
  | n + 1, a1, a2, a3 => (bif (a1 == (0 : Int)) then (bif (a2 == (0 : Int)) then (let v4 : Bool := (a3.toList == (⟨#[]⟩ : ByteArray).toList); (some v4)) else (some false)) else (bif (a1 == (1 : Int)) then (bif (a2 == (0 : Int)) then (let v5 : Bool := (a3.toList == (⟨#[]⟩ : ByteArray).toList); (some v5)) else (bif (a2 == (1 : Int)) then (let v6 : Bool := (a3.toList == (⟨#[]⟩ : ByteArray).toList); (some v6)) else (some false))) else (bif (a1 == (2 : Int)) then ((spec_l01Num n a2).bind fun r7 => (bif r7 then (let v8 : Bool := (a3.toList == (⟨#[]⟩ : ByteArray).toList); (some v8)) else (some false))) else (bif (a1 == (3 : Int)) then (bif (a2 == (0 : Int)) then (some (decide ((a3.size : Int) ≤ (30 : Int)))) else (some false)) else (some false)))))
/-- loop.example/g00462/spec.ColOk -/
def spec_ColOk : Nat → ByteArray → Int → Bool → Bool → Int → Int → ByteArray → Option Bool
  | 0, _, _, _, _, _, _, _ => none
  | n + 1, a1, a2, a3, a4, a5, a6, a7 => (let v8 : Bool := ((a5 == (0 : Int)) && ((a6 == (0 : Int)) && ((a7.toList == (⟨#[]⟩ : ByteArray).toList) && true))); ((spec_WordOk n a1).bind fun r9 => (bif (!r9) then (some false) else (bif (decide (a2 < (1 : Int))) then (some false) else (bif (decide ((3 : Int) < a2)) then (some false) else (bif (!a4) then (some v8) else ((spec_ValOk n a5 a6 a7).bind fun r10 => (bif r10 then (bif v8 then (bif v8 then (some (!a3)) else (some true)) else (bif (a5 == a2) then (bif v8 then (some (!a3)) else (some true)) else (some false))) else (some false)))))))))
/-- loop.example/g00462/spec.l05Types -/
def spec_l05Types : Nat → Option (List ByteArray)
  | 0 => none
  | n + 1 => (let v1 : List ByteArray := ([(⟨#[]⟩ : ByteArray), (⟨#[98, 111, 111, 108]⟩ : ByteArray), (⟨#[105, 110, 116]⟩ : ByteArray), (⟨#[116, 101, 120, 116]⟩ : ByteArray)] : List ByteArray); (some v1))
/-- loop.example/g00462/spec.l01Bool -/
def spec_l01Bool : Nat → Int → Option ByteArray
  | 0, _ => none
  | n + 1, a1 => (bif (a1 == (1 : Int)) then (some (⟨#[116, 114, 117, 101]⟩ : ByteArray)) else (some (⟨#[102, 97, 108, 115, 101]⟩ : ByteArray)))
/-- loop.example/g00462/spec.NumText -/
def spec_NumText : Nat → Int → Option ByteArray
  | 0, _ => none
  | n + 1, a1 => ((spec_l01Num n a1).bind fun r2 => (bif (!r2) then (some (⟨#[]⟩ : ByteArray)) else (bif (decide (a1 < (0 : Int))) then ((spec_NumText n (IntKind.wrap .i64 (0 - a1))).bind fun r3 => (bif (decide ((⟨#[45]⟩ : ByteArray).size + r3.size ≤ 9223372036854775807)) then (some ((⟨#[45]⟩ : ByteArray) ++ r3)) else none)) else (bif (decide (a1 < (10 : Int))) then (let v4 : Int := (IntKind.wrap .u8 (IntKind.wrap .i64 ((48 : Int) + a1))); (some (strOfNums ([v4] : List Int)))) else (bif (!decide ((10 : Int) = 0)) then (let v5 : Int := (IntKind.wrap .i64 (Int.tdiv a1 (10 : Int))); ((spec_NumText n v5).bind fun r6 => (bif (!decide ((10 : Int) = 0)) then (let v7 : Int := (IntKind.wrap .i64 ((48 : Int) + (Int.tmod a1 (10 : Int)))); (let v8 : ByteArray := (strOfNums ([(IntKind.wrap .u8 v7)] : List Int)); (bif (decide (r6.size + v8.size ≤ 9223372036854775807)) then (some (r6 ++ v8)) else none))) else none))) else none)))))
/-- loop.example/g00462/spec.l01Hex -/
def spec_l01Hex : Nat → Int → Option Int
  | 0, _ => none
  | n + 1, a1 => (bif (!decide ((16 : Int) = 0)) then (bif (inR (Int.tmod a1 (16 : Int)) (⟨#[48, 49, 50, 51, 52, 53, 54, 55, 56, 57, 97, 98, 99, 100, 101, 102]⟩ : ByteArray).size) then (let v2 : Int := (bt (⟨#[48, 49, 50, 51, 52, 53, 54, 55, 56, 57, 97, 98, 99, 100, 101, 102]⟩ : ByteArray) (Int.tmod a1 (16 : Int))); (some v2)) else none) else none)
def spec_ValText_L1 (n : Nat) : Nat → Int → Int → Int → ByteArray → List Int → Option ByteArray
  | 0, _, _, _, _, _ => none
  | j + 1, x7, x8, x9, x10, x11 => (bif (decide (x7 < (x10.size : Int))) then (bif (inR x7 x10.size) then (bif (decide ((33 : Int) ≤ (bt x10 x7))) then (bif (decide ((bt x10 x7) ≤ (126 : Int))) then (bif ((bt x10 x7) != (39 : Int)) then (bif ((bt x10 x7) != (37 : Int)) then (bif (room (x11.length + ([(bt x10 x7)] : List Int).length) 1) then (spec_ValText_L1 n j (IntKind.wrap .i64 (x7 + (1 : Int))) x8 x9 x10 (x11 ++ ([(bt x10 x7)] : List Int))) else none) else (bif (!decide ((16 : Int) = 0)) then (let v12 : Int := (IntKind.wrap .i64 (Int.tdiv (IntKind.wrap .i64 (bt x10 x7)) (16 : Int))); ((spec_l01Hex n v12).bind fun r13 => (bif (!decide ((16 : Int) = 0)) then (let v14 : Int := (Int.tmod (IntKind.wrap .i64 (bt x10 x7)) (16 : Int)); ((spec_l01Hex n v14).bind fun r15 => (bif (room (x11.length + ([(37 : Int), r13, r15] : List Int).length) 1) then (let v16 : List Int := (x11 ++ ([(37 : Int), r13, r15] : List Int)); (spec_ValText_L1 n j (IntKind.wrap .i64 (x7 + (1 : Int))) x8 x9 x10 v16)) else none))) else none))) else none)) else (bif (!decide ((16 : Int) = 0)) then (let v17 : Int := (IntKind.wrap .i64 (Int.tdiv (IntKind.wrap .i64 (bt x10 x7)) (16 : Int))); ((spec_l01Hex n v17).bind fun r18 => (bif (!decide ((16 : Int) = 0)) then (let v19 : Int := (Int.tmod (IntKind.wrap .i64 (bt x10 x7)) (16 : Int)); ((spec_l01Hex n v19).bind fun r20 => (bif (room (x11.length + ([(37 : Int), r18, r20] : List Int).length) 1) then (let v21 : List Int := (x11 ++ ([(37 : Int), r18, r20] : List Int)); (spec_ValText_L1 n j (IntKind.wrap .i64 (x7 + (1 : Int))) x8 x9 x10 v21)) else none))) else none))) else none)) else (bif (!decide ((16 : Int) = 0)) then (let v22 : Int := (IntKind.wrap .i64 (Int.tdiv (IntKind.wrap .i64 (bt x10 x7)) (16 : Int))); ((spec_l01Hex n v22).bind fun r23 => (bif (!decide ((16 : Int) = 0)) then (let v24 : Int := (Int.tmod (IntKind.wrap .i64 (bt x10 x7)) (16 : Int)); ((spec_l01Hex n v24).bind fun r25 => (bif (room (x11.length + ([(37 : Int), r23, r25] : List Int).length) 1) then (let v26 : List Int := (x11 ++ ([(37 : Int), r23, r25] : List Int)); (spec_ValText_L1 n j (IntKind.wrap .i64 (x7 + (1 : Int))) x8 x9 x10 v26)) else none))) else none))) else none)) else (bif (!decide ((16 : Int) = 0)) then (let v27 : Int := (IntKind.wrap .i64 (Int.tdiv (IntKind.wrap .i64 (bt x10 x7)) (16 : Int))); ((spec_l01Hex n v27).bind fun r28 => (bif (!decide ((16 : Int) = 0)) then (let v29 : Int := (Int.tmod (IntKind.wrap .i64 (bt x10 x7)) (16 : Int)); ((spec_l01Hex n v29).bind fun r30 => (bif (room (x11.length + ([(37 : Int), r28, r30] : List Int).length) 1) then (let v31 : List Int := (x11 ++ ([(37 : Int), r28, r30] : List Int)); (spec_ValText_L1 n j (IntKind.wrap .i64 (x7 + (1 : Int))) x8 x9 x10 v31)) else none))) else none))) else none)) else none) else (bif (room (x11.length + ([(39 : Int)] : List Int).length) 1) then (let v32 : ByteArray := (strOfNums (x11 ++ ([(39 : Int)] : List Int))); (some v32)) else none))
/-- loop.example/g00462/spec.ValText -/
def spec_ValText : Nat → Int → Int → ByteArray → Option ByteArray
  | 0, _, _, _ => none
  | n + 1, a1, a2, a3 => ((spec_ValOk n a1 a2 a3).bind fun r4 => (bif (!r4) then (some (⟨#[]⟩ : ByteArray)) else (bif (a1 == (0 : Int)) then (some (⟨#[110, 117, 108, 108]⟩ : ByteArray)) else (bif (a1 == (1 : Int)) then ((spec_l01Bool n a2).bind fun r5 => (some r5)) else (bif (a1 == (2 : Int)) then ((spec_NumText n a2).bind fun r6 => (some r6)) else (spec_ValText_L1 n n (0 : Int) a1 a2 a3 ([(39 : Int)] : List Int)))))))
/-- loop.example/g00462/spec.l05Col -/
def spec_l05Col : Nat → ByteArray → Int → Bool → Bool → Int → Int → ByteArray → Option (List ByteArray)
  | 0, _, _, _, _, _, _, _ => none
  | n + 1, a1, a2, a3, a4, a5, a6, a7 => ((spec_l05Types n).bind fun r8 => (bif (inR a2 r8.length) then (let v9 : List ByteArray := ([a1, (r8.getD a2.toNat (⟨#[]⟩ : ByteArray))] : List ByteArray); (bif a3 then (let v10 : List ByteArray := ([(⟨#[110, 111, 116]⟩ : ByteArray)] : List ByteArray); (bif (room (v9.length + v10.length) 16) then (bif a4 then ((spec_ValText n a5 a6 a7).bind fun r11 => (bif (decide ((⟨#[61]⟩ : ByteArray).size + r11.size ≤ 9223372036854775807)) then (let v12 : List ByteArray := ([((⟨#[61]⟩ : ByteArray) ++ r11)] : List ByteArray); (bif (room ((v9 ++ v10).length + v12.length) 16) then (some ((v9 ++ v10) ++ v12)) else none)) else none)) else (some (v9 ++ v10))) else none)) else (bif a4 then ((spec_ValText n a5 a6 a7).bind fun r13 => (bif (decide ((⟨#[61]⟩ : ByteArray).size + r13.size ≤ 9223372036854775807)) then (let v14 : List ByteArray := ([((⟨#[61]⟩ : ByteArray) ++ r13)] : List ByteArray); (bif (room (v9.length + v14.length) 16) then (some (v9 ++ v14)) else none)) else none)) else (some v9)))) else none))
def spec_l05Join_L1 (n : Nat) : Nat → ByteArray → List ByteArray → Int → Int → Option ByteArray
  | 0, _, _, _, _ => none
  | j + 1, x2, x3, x4, x5 => (bif (decide (x5 < x4)) then (bif (inR x5 x3.length) then (bif (decide ((0 : Int) < x5)) then (bif (decide (x2.size + (⟨#[32]⟩ : ByteArray).size ≤ 9223372036854775807)) then (bif (decide ((x2 ++ (⟨#[32]⟩ : ByteArray)).size + (x3.getD x5.toNat (⟨#[]⟩ : ByteArray)).size ≤ 9223372036854775807)) then (let v6 : ByteArray := ((x2 ++ (⟨#[32]⟩ : ByteArray)) ++ (x3.getD x5.toNat (⟨#[]⟩ : ByteArray))); (spec_l05Join_L1 n j v6 x3 x4 (IntKind.wrap .i64 (x5 + (1 : Int))))) else none) else none) else (bif (decide (x2.size + (x3.getD x5.toNat (⟨#[]⟩ : ByteArray)).size ≤ 9223372036854775807)) then (let v7 : ByteArray := (x2 ++ (x3.getD x5.toNat (⟨#[]⟩ : ByteArray))); (spec_l05Join_L1 n j v7 x3 x4 (IntKind.wrap .i64 (x5 + (1 : Int))))) else none)) else none) else (some x2))
/-- loop.example/g00462/spec.l05Join -/
def spec_l05Join : Nat → (List ByteArray) → Option ByteArray
  | 0, _ => none
  | n + 1, a1 => (spec_l05Join_L1 n n (⟨#[]⟩ : ByteArray) a1 (a1.length : Int) (0 : Int))
/-- loop.example/g00462/spec.ColText -/
def spec_ColText : Nat → ByteArray → Int → Bool → Bool → Int → Int → ByteArray → Option ByteArray
  | 0, _, _, _, _, _, _, _ => none
  | n + 1, a1, a2, a3, a4, a5, a6, a7 => ((spec_ColOk n a1 a2 a3 a4 a5 a6 a7).bind fun r8 => (bif (!r8) then (some (⟨#[]⟩ : ByteArray)) else ((spec_l05Col n a1 a2 a3 a4 a5 a6 a7).bind fun r9 => ((spec_l05Join n r9).bind fun r10 => (some r10)))))
/-- loop.example/g00462/impl.within -/
def impl_within : Nat → Int → Int → Int → Option Bool
  | 0, _, _, _ => none
  | n + 1, a1, a2, a3 => (bif (decide (a2 ≤ a1)) then (some (decide (a1 ≤ a3))) else (some false))
def impl_WordOk_L1 (n : Nat) : Nat → ByteArray → Int → Option Bool
  | 0, _, _ => none
  | j + 1, x2, x3 => (bif (decide (x3 < (x2.size : Int))) then (bif (inR x3 x2.size) then (bif (decide ((bt x2 x3) < (97 : Int))) then (some false) else (bif (inR x3 x2.size) then (bif (decide ((122 : Int) < (bt x2 x3))) then (some false) else (impl_WordOk_L1 n j x2 (IntKind.wrap .i64 (x3 + (1 : Int))))) else none)) else none) else ((impl_within n (x2.size : Int) (1 : Int) (8 : Int)).bind fun r4 => (some r4)))
/-- loop.example/g00462/impl.WordOk -/
def impl_WordOk : Nat → ByteArray → Option Bool
  | 0, _ => none
  | n + 1, a1 => (impl_WordOk_L1 n n a1 (0 : Int))
/-- loop.example/g00462/impl.ValOk -/
def impl_ValOk : Nat → Int → Int → ByteArray → Option Bool
  | 0, _, _, _ => none
  | n + 1, a1, a2, a3 => (bif (a1 == (0 : Int)) then (let v4 : Bool := ((a1 == (0 : Int)) && ((a2 == (0 : Int)) && ((a3.toList == (⟨#[]⟩ : ByteArray).toList) && true))); (some v4)) else (bif (a1 == (1 : Int)) then ((impl_within n a2 (0 : Int) (1 : Int)).bind fun r5 => (bif r5 then (let v6 : Bool := (a3.toList == (⟨#[]⟩ : ByteArray).toList); (some v6)) else (some false))) else (bif (a1 == (2 : Int)) then ((impl_within n a2 (-1099511627775 : Int) (1099511627775 : Int)).bind fun r7 => (bif r7 then (let v8 : Bool := (a3.toList == (⟨#[]⟩ : ByteArray).toList); (some v8)) else (some false))) else (bif (a1 == (3 : Int)) then (bif (a2 == (0 : Int)) then (some (decide ((a3.size : Int) ≤ (30 : Int)))) else (some false)) else (some false)))))
/-- loop.example/g00462/impl.ColOk -/
def impl_ColOk : Nat → ByteArray → Int → Bool → Bool → Int → Int → ByteArray → Option Bool
  | 0, _, _, _, _, _, _, _ => none
  | n + 1, a1, a2, a3, a4, a5, a6, a7 => ((impl_WordOk n a1).bind fun r8 => (bif (!r8) then (some false) else ((impl_within n a2 (1 : Int) (3 : Int)).bind fun r9 => (bif (!r9) then (some false) else ((impl_ValOk n a5 a6 a7).bind fun r10 => (bif (!r10) then (some false) else (bif (!a4) then (let v11 : Bool := ((a5 == (0 : Int)) && ((a6 == (0 : Int)) && ((a7.toList == (⟨#[]⟩ : ByteArray).toList) && true))); (some v11)) else (bif (a5 == a2) then (some true) else (bif (a5 == (0 : Int)) then (some (!a3)) else (some false))))))))))
/-- loop.example/g00462/impl.tyName -/
def impl_tyName : Nat → Int → Option ByteArray
  | 0, _ => none
  | n + 1, a1 => (let v2 : List ByteArray := ([(⟨#[]⟩ : ByteArray), (⟨#[98, 111, 111, 108]⟩ : ByteArray), (⟨#[105, 110, 116]⟩ : ByteArray), (⟨#[116, 101, 120, 116]⟩ : ByteArray)] : List ByteArray); (bif (inR a1 v2.length) then (some (v2.getD a1.toNat (⟨#[]⟩ : ByteArray))) else none))
/-- loop.example/g00462/impl.boolText -/
def impl_boolText : Nat → Int → Option ByteArray
  | 0, _ => none
  | n + 1, a1 => (bif (a1 == (1 : Int)) then (some (⟨#[116, 114, 117, 101]⟩ : ByteArray)) else (some (⟨#[102, 97, 108, 115, 101]⟩ : ByteArray)))
def impl_NumText_L1 (n : Nat) : Nat → Int → ByteArray → Option ByteArray
  | 0, _, _ => none
  | j + 1, x4, x5 => (bif (decide ((9 : Int) < x4)) then (bif (!decide ((10 : Int) = 0)) then (let v6 : Int := (IntKind.wrap .i64 ((48 : Int) + (Int.tmod x4 (10 : Int)))); (let v7 : ByteArray := (strOfNums ([(IntKind.wrap .u8 v6)] : List Int)); (bif (decide (v7.size + x5.size ≤ 9223372036854775807)) then (bif (!decide ((10 : Int) = 0)) then (let v8 : Int := (IntKind.wrap .i64 (Int.tdiv x4 (10 : Int))); (impl_NumText_L1 n j v8 (v7 ++ x5))) else none) else none))) else none) else (let v9 : Int := (IntKind.wrap .u8 (IntKind.wrap .i64 ((48 : Int) + x4))); (bif (decide ((strOfNums ([v9] : List Int)).size + x5.size ≤ 9223372036854775807)) then (some ((strOfNums ([v9] : List Int)) ++ x5)) else none)))
/-- loop.example/g00462/impl.NumText -/
def impl_NumText : Nat → Int → Option ByteArray
  | 0, _ => none
  | n + 1, a1 => ((impl_within n a1 (-1099511627775 : Int) (1099511627775 : Int)).bind fun r2 => (bif (!r2) then (some (⟨#[]⟩ : ByteArray)) else (bif (decide (a1 < (0 : Int))) then ((impl_NumText n (IntKind.wrap .i64 (0 - a1))).bind fun r3 => (bif (decide ((⟨#[45]⟩ : ByteArray).size + r3.size ≤ 9223372036854775807)) then (some ((⟨#[45]⟩ : ByteArray) ++ r3)) else none)) else (impl_NumText_L1 n n a1 (⟨#[]⟩ : ByteArray)))))
def impl_ValText_L1 (n : Nat) : Nat → Int → Int → Int → ByteArray → List Int → Option ByteArray
  | 0, _, _, _, _, _ => none
  | j + 1, x7, x8, x9, x10, x11 => (bif (decide (x7 < (x10.size : Int))) then (bif (inR x7 x10.size) then ((impl_within n (IntKind.wrap .i64 (bt x10 x7)) (33 : Int) (126 : Int)).bind fun r12 => (bif r12 then (bif ((bt x10 x7) != (39 : Int)) then (bif ((bt x10 x7) != (37 : Int)) then (bif (room (x11.length + ([(bt x10 x7)] : List Int).length) 1) then (impl_ValText_L1 n j (IntKind.wrap .i64 (x7 + (1 : Int))) x8 x9 x10 (x11 ++ ([(bt x10 x7)] : List Int))) else none) else (bif (decide (0 ≤ (4 : Int))) then (let v13 : Int := (Int.fdiv (bt x10 x7) (2 ^ min (4 : Int).toNat (IntKind.bits .u8))); (bif (inR v13 (⟨#[48, 49, 50, 51, 52, 53, 54, 55, 56, 57, 97, 98, 99, 100, 101, 102]⟩ : ByteArray).size) then (let v14 : Int := (bt (⟨#[48, 49, 50, 51, 52, 53, 54, 55, 56, 57, 97, 98, 99, 100, 101, 102]⟩ : ByteArray) v13); (let v15 : Int := (IntKind.wrap .u8 ((BitVec.ofInt (IntKind.bits .u8) (bt x10 x7) &&& BitVec.ofInt (IntKind.bits .u8) (15 : Int)).toNat : Int)); (bif (inR v15 (⟨#[48, 49, 50, 51, 52, 53, 54, 55, 56, 57, 97, 98, 99, 100, 101, 102]⟩ : ByteArray).size) then (let v16 : Int := (bt (⟨#[48, 49, 50, 51, 52, 53, 54, 55, 56, 57, 97, 98, 99, 100, 101, 102]⟩ : ByteArray) v15); (bif (room (x11.length + ([(37 : Int), v14, v16] : List Int).length) 1) then (let v17 : List Int := (x11 ++ ([(37 : Int), v14, v16] : List Int)); (impl_ValText_L1 n j (IntKind.wrap .i64 (x7 + (1 : Int))) x8 x9 x10 v17)) else none)) else none))) else none)) else none)) else (bif (decide (0 ≤ (4 : Int))) then (let v18 : Int := (Int.fdiv (bt x10 x7) (2 ^ min (4 : Int).toNat (IntKind.bits .u8))); (bif (inR v18 (⟨#[48, 49, 50, 51, 52, 53, 54, 55, 56, 57, 97, 98, 99, 100, 101, 102]⟩ : ByteArray).size) then (let v19 : Int := (bt (⟨#[48, 49, 50, 51, 52, 53, 54, 55, 56, 57, 97, 98, 99, 100, 101, 102]⟩ : ByteArray) v18); (let v20 : Int := (IntKind.wrap .u8 ((BitVec.ofInt (IntKind.bits .u8) (bt x10 x7) &&& BitVec.ofInt (IntKind.bits .u8) (15 : Int)).toNat : Int)); (bif (inR v20 (⟨#[48, 49, 50, 51, 52, 53, 54, 55, 56, 57, 97, 98, 99, 100, 101, 102]⟩ : ByteArray).size) then (let v21 : Int := (bt (⟨#[48, 49, 50, 51, 52, 53, 54, 55, 56, 57, 97, 98, 99, 100, 101, 102]⟩ : ByteArray) v20); (bif (room (x11.length + ([(37 : Int), v19, v21] : List Int).length) 1) then (let v22 : List Int := (x11 ++ ([(37 : Int), v19, v21] : List Int)); (impl_ValText_L1 n j (IntKind.wrap .i64 (x7 + (1 : Int))) x8 x9 x10 v22)) else none)) else none))) else none)) else none)) else (bif (decide (0 ≤ (4 : Int))) then (let v23 : Int := (Int.fdiv (bt x10 x7) (2 ^ min (4 : Int).toNat (IntKind.bits .u8))); (bif (inR v23 (⟨#[48, 49, 50, 51, 52, 53, 54, 55, 56, 57, 97, 98, 99, 100, 101, 102]⟩ : ByteArray).size) then (let v24 : Int := (bt (⟨#[48, 49, 50, 51, 52, 53, 54, 55, 56, 57, 97, 98, 99, 100, 101, 102]⟩ : ByteArray) v23); (let v25 : Int := (IntKind.wrap .u8 ((BitVec.ofInt (IntKind.bits .u8) (bt x10 x7) &&& BitVec.ofInt (IntKind.bits .u8) (15 : Int)).toNat : Int)); (bif (inR v25 (⟨#[48, 49, 50, 51, 52, 53, 54, 55, 56, 57, 97, 98, 99, 100, 101, 102]⟩ : ByteArray).size) then (let v26 : Int := (bt (⟨#[48, 49, 50, 51, 52, 53, 54, 55, 56, 57, 97, 98, 99, 100, 101, 102]⟩ : ByteArray) v25); (bif (room (x11.length + ([(37 : Int), v24, v26] : List Int).length) 1) then (let v27 : List Int := (x11 ++ ([(37 : Int), v24, v26] : List Int)); (impl_ValText_L1 n j (IntKind.wrap .i64 (x7 + (1 : Int))) x8 x9 x10 v27)) else none)) else none))) else none)) else none))) else none) else (bif (room (x11.length + ([(39 : Int)] : List Int).length) 1) then (let v28 : ByteArray := (strOfNums (x11 ++ ([(39 : Int)] : List Int))); (some v28)) else none))
/-- loop.example/g00462/impl.ValText -/
def impl_ValText : Nat → Int → Int → ByteArray → Option ByteArray
  | 0, _, _, _ => none
  | n + 1, a1, a2, a3 => ((impl_ValOk n a1 a2 a3).bind fun r4 => (bif (!r4) then (some (⟨#[]⟩ : ByteArray)) else (bif (a1 == (0 : Int)) then (some (⟨#[110, 117, 108, 108]⟩ : ByteArray)) else (bif (a1 == (1 : Int)) then ((impl_boolText n a2).bind fun r5 => (some r5)) else (bif (a1 == (2 : Int)) then ((impl_NumText n a2).bind fun r6 => (some r6)) else (impl_ValText_L1 n n (0 : Int) a1 a2 a3 ([(39 : Int)] : List Int)))))))
/-- loop.example/g00462/impl.ColText -/
def impl_ColText : Nat → ByteArray → Int → Bool → Bool → Int → Int → ByteArray → Option ByteArray
  | 0, _, _, _, _, _, _, _ => none
  | n + 1, a1, a2, a3, a4, a5, a6, a7 => ((impl_ColOk n a1 a2 a3 a4 a5 a6 a7).bind fun r8 => (bif (!r8) then (some (⟨#[]⟩ : ByteArray)) else (bif (decide (a1.size + (⟨#[32]⟩ : ByteArray).size ≤ 9223372036854775807)) then ((impl_tyName n a2).bind fun r9 => (bif (decide ((a1 ++ (⟨#[32]⟩ : ByteArray)).size + r9.size ≤ 9223372036854775807)) then (bif a3 then (bif (decide (((a1 ++ (⟨#[32]⟩ : ByteArray)) ++ r9).size + (⟨#[32, 110, 111, 116]⟩ : ByteArray).size ≤ 9223372036854775807)) then (let v10 : ByteArray := (((a1 ++ (⟨#[32]⟩ : ByteArray)) ++ r9) ++ (⟨#[32, 110, 111, 116]⟩ : ByteArray)); (bif a4 then (bif (decide (v10.size + (⟨#[32, 61]⟩ : ByteArray).size ≤ 9223372036854775807)) then ((impl_ValText n a5 a6 a7).bind fun r11 => (bif (decide ((v10 ++ (⟨#[32, 61]⟩ : ByteArray)).size + r11.size ≤ 9223372036854775807)) then (let v12 : ByteArray := ((v10 ++ (⟨#[32, 61]⟩ : ByteArray)) ++ r11); (some v12)) else none)) else none) else (some v10))) else none) else (bif a4 then (bif (decide (((a1 ++ (⟨#[32]⟩ : ByteArray)) ++ r9).size + (⟨#[32, 61]⟩ : ByteArray).size ≤ 9223372036854775807)) then (let v13 : ByteArray := (((a1 ++ (⟨#[32]⟩ : ByteArray)) ++ r9) ++ (⟨#[32, 61]⟩ : ByteArray)); ((impl_ValText n a5 a6 a7).bind fun r14 => (bif (decide (v13.size + r14.size ≤ 9223372036854775807)) then (some (v13 ++ r14)) else none))) else none) else (some ((a1 ++ (⟨#[32]⟩ : ByteArray)) ++ r9)))) else none)) else none)))
/-- loop.example/g00462/laws.FnExactColText -/
def laws_FnExactColText : Nat → ByteArray → Int → Bool → Bool → Int → Int → ByteArray → Option Bool
  | 0, _, _, _, _, _, _, _ => none
  | n + 1, a1, a2, a3, a4, a5, a6, a7 => ((laws_szCol n a1 a2 a3 a4 a5 a6 a7 (1048576 : Int)).bind fun r8 => (bif (decide (r8 < (0 : Int))) then (some true) else ((laws_toCol n a1 a2 a3 a4 a5 a6 a7).bind fun r9 => ((spec_ColText n r9.1 r9.2.1 r9.2.2.1 r9.2.2.2.1 r9.2.2.2.2.1 r9.2.2.2.2.2.1 r9.2.2.2.2.2.2).bind fun r10 => ((laws_toCol n a1 a2 a3 a4 a5 a6 a7).bind fun r11 => ((impl_ColText n r11.1 r11.2.1 r11.2.2.1 r11.2.2.2.1 r11.2.2.2.2.1 r11.2.2.2.2.2.1 r11.2.2.2.2.2.2).bind fun r12 => (bif (!(r12.toList == r10.toList)) then (some false) else (some true))))))))
end Go.Proofs.Ythfkolhjnioblaa.Ev

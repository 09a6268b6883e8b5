/- The functions that the law FnExactDdlOk reaches, as typed functions. -/
import Derived.Test.YtaokfhkeplagcaaEvCore
set_option linter.all false
namespace Go.Proofs.Ytaokfhkeplagcaa.Ev
open Go
/-- loop.example/g00462/laws.szVal -/
def laws_szVal : Nat → Int → Int → ByteArray → Int → Option Int
  | 0, _, _, _, _ => none
  | n + 1, a1, a2, a3, a4 => (let v5 : Int := (IntKind.wrap .i64 (a4 - (a3.size : Int))); (bif (decide (v5 < (0 : Int))) then (some (-1 : Int)) else (some v5)))
/-- loop.example/g00462/laws.szCol -/
def laws_szCol : Nat → ByteArray → Int → Bool → Bool → Int → Int → ByteArray → Int → Option Int
  | 0, _, _, _, _, _, _, _, _ => none
  | n + 1, a1, a2, a3, a4, a5, a6, a7, a8 => (let v9 : Int := (IntKind.wrap .i64 (a8 - (a1.size : Int))); (bif (decide (v9 < (0 : Int))) then (some (-1 : Int)) else ((laws_szVal n a5 a6 a7 v9).bind fun r10 => (bif (decide (r10 < (0 : Int))) then (some (-1 : Int)) else (some r10)))))
def laws_szColS_L1 (n : Nat) : Nat → List (ByteArray × (Int × (Bool × (Bool × (Int × (Int × ByteArray)))))) → Int → Int → Option Int
  | 0, _, _, _ => none
  | j + 1, x4, x5, x6 => (bif (decide (x6 < (x4.length : Int))) then (bif (inR x6 x4.length) then (let v7 : (ByteArray × (Int × (Bool × (Bool × (Int × (Int × ByteArray)))))) := (x4.getD x6.toNat ((⟨#[]⟩ : ByteArray), ((0 : Int), (false, (false, ((0 : Int), ((0 : Int), (⟨#[]⟩ : ByteArray)))))))); ((laws_szCol n v7.1 v7.2.1 v7.2.2.1 v7.2.2.2.1 v7.2.2.2.2.1 v7.2.2.2.2.2.1 v7.2.2.2.2.2.2 x5).bind fun r8 => (bif (decide (r8 < (0 : Int))) then (some (-1 : Int)) else (laws_szColS_L1 n j x4 r8 (IntKind.wrap .i64 (x6 + (1 : Int))))))) else none) else (some x5))
/-- loop.example/g00462/laws.szColS -/
def laws_szColS : Nat → (List (ByteArray × (Int × (Bool × (Bool × (Int × (Int × ByteArray))))))) → Int → Option Int
  | 0, _, _ => none
  | n + 1, a1, a2 => (let v3 : Int := (IntKind.wrap .i64 (a2 - (a1.length : Int))); (bif (decide (v3 < (0 : Int))) then (some (-1 : Int)) else (laws_szColS_L1 n n a1 v3 (0 : Int))))
def laws_szStringS_L1 (n : Nat) : Nat → List ByteArray → Int → Int → Option Int
  | 0, _, _, _ => none
  | j + 1, x4, x5, x6 => (bif (decide (x6 < (x4.length : Int))) then (bif (inR x6 x4.length) then (let v7 : Int := ((x4.getD x6.toNat (⟨#[]⟩ : ByteArray)).size : Int); (let v8 : Bool := (decide ((IntKind.wrap .i64 (x5 - v7)) < (0 : Int))); (bif v8 then (some (-1 : Int)) else (laws_szStringS_L1 n j x4 (IntKind.wrap .i64 (x5 - v7)) (IntKind.wrap .i64 (x6 + (1 : Int))))))) else none) else (some x5))
/-- loop.example/g00462/laws.szStringS -/
def laws_szStringS : Nat → (List ByteArray) → Int → Option Int
  | 0, _, _ => none
  | n + 1, a1, a2 => (let v3 : Int := (IntKind.wrap .i64 (a2 - (a1.length : Int))); (bif (decide (v3 < (0 : Int))) then (some (-1 : Int)) else (laws_szStringS_L1 n n a1 v3 (0 : Int))))
/-- loop.example/g00462/laws.szDdl -/
def laws_szDdl : Nat → Int → ByteArray → (List (ByteArray × (Int × (Bool × (Bool × (Int × (Int × ByteArray))))))) → (List ByteArray) → ByteArray → ByteArray → Int → Option Int
  | 0, _, _, _, _, _, _, _ => none
  | n + 1, a1, a2, a3, a4, a5, a6, a7 => (let v8 : Int := (IntKind.wrap .i64 (a7 - (a2.size : Int))); (bif (decide (v8 < (0 : Int))) then (some (-1 : Int)) else ((laws_szColS n a3 v8).bind fun r9 => (bif (decide (r9 < (0 : Int))) then (some (-1 : Int)) else ((laws_szStringS n a4 r9).bind fun r10 => (bif (decide (r10 < (0 : Int))) then (some (-1 : Int)) else (let v11 : Int := (IntKind.wrap .i64 (r10 - (a5.size : Int))); (bif (decide (v11 < (0 : Int))) then (some (-1 : Int)) else (let v12 : Int := (IntKind.wrap .i64 (v11 - (a6.size : Int))); (bif (decide (v12 < (0 : Int))) then (some (-1 : Int)) else (some v12)))))))))))
/-- loop.example/g00462/laws.toVal -/
def laws_toVal : Nat → Int → Int → ByteArray → Option (Int × (Int × ByteArray))
  | 0, _, _, _ => none
  | n + 1, a1, a2, a3 => (some (a1, (a2, a3)))
/-- loop.example/g00462/laws.toCol -/
def laws_toCol : Nat → ByteArray → Int → Bool → Bool → Int → Int → ByteArray → Option (ByteArray × (Int × (Bool × (Bool × (Int × (Int × ByteArray))))))
  | 0, _, _, _, _, _, _, _ => none
  | n + 1, a1, a2, a3, a4, a5, a6, a7 => ((laws_toVal n a5 a6 a7).bind fun r8 => (some (a1, (a2, (a3, (a4, (r8.1, (r8.2.1, r8.2.2))))))))
def laws_toColS_L1 (n : Nat) : Nat → List (ByteArray × (Int × (Bool × (Bool × (Int × (Int × ByteArray)))))) → Int → List (ByteArray × (Int × (Bool × (Bool × (Int × (Int × ByteArray)))))) → Option (List (ByteArray × (Int × (Bool × (Bool × (Int × (Int × ByteArray)))))))
  | 0, _, _, _ => none
  | j + 1, x4, x5, x6 => (bif (decide (x5 < (x4.length : Int))) then (bif (inR x5 x4.length) then (let v7 : (ByteArray × (Int × (Bool × (Bool × (Int × (Int × ByteArray)))))) := (x4.getD x5.toNat ((⟨#[]⟩ : ByteArray), ((0 : Int), (false, (false, ((0 : Int), ((0 : Int), (⟨#[]⟩ : ByteArray)))))))); ((laws_toCol n v7.1 v7.2.1 v7.2.2.1 v7.2.2.2.1 v7.2.2.2.2.1 v7.2.2.2.2.2.1 v7.2.2.2.2.2.2).bind fun r8 => (bif (inR x5 x6.length) then (let v9 : List (ByteArray × (Int × (Bool × (Bool × (Int × (Int × ByteArray)))))) := (x6.set x5.toNat (r8.1, (r8.2.1, (r8.2.2.1, (r8.2.2.2.1, (r8.2.2.2.2.1, (r8.2.2.2.2.2.1, r8.2.2.2.2.2.2))))))); (laws_toColS_L1 n j x4 (IntKind.wrap .i64 (x5 + (1 : Int))) v9)) else none))) else none) else (some x6))
/-- loop.example/g00462/laws.toColS -/
def laws_toColS : Nat → (List (ByteArray × (Int × (Bool × (Bool × (Int × (Int × ByteArray))))))) → Option (List (ByteArray × (Int × (Bool × (Bool × (Int × (Int × ByteArray)))))))
  | 0, _ => none
  | n + 1, a1 => (let v2 : List (ByteArray × (Int × (Bool × (Bool × (Int × (Int × ByteArray)))))) := ([] : List (ByteArray × (Int × (Bool × (Bool × (Int × (Int × ByteArray))))))); (bif (decide ((a1.length : Int) = (a1.length : Int) ∧ 0 ≤ (a1.length : Int)) && room (a1.length : Int).toNat 64) then (let v3 : List (ByteArray × (Int × (Bool × (Bool × (Int × (Int × ByteArray)))))) := (List.replicate (a1.length : Int).toNat ((⟨#[]⟩ : ByteArray), ((0 : Int), (false, (false, ((0 : Int), ((0 : Int), (⟨#[]⟩ : ByteArray)))))))); (laws_toColS_L1 n n a1 (0 : Int) v3)) else none))
def laws_toStringS_L1 (n : Nat) : Nat → List ByteArray → Int → List ByteArray → Option (List ByteArray)
  | 0, _, _, _ => none
  | j + 1, x3, x4, x5 => (bif (decide (x4 < (x3.length : Int))) then (bif (inR x4 x3.length) then (bif (inR x4 x5.length) then (let v6 : List ByteArray := (x5.set x4.toNat (x3.getD x4.toNat (⟨#[]⟩ : ByteArray))); (laws_toStringS_L1 n j x3 (IntKind.wrap .i64 (x4 + (1 : Int))) v6)) else none) else none) else (some x5))
/-- loop.example/g00462/laws.toStringS -/
def laws_toStringS : Nat → (List ByteArray) → Option (List ByteArray)
  | 0, _ => none
  | n + 1, a1 => (bif (decide ((a1.length : Int) = (a1.length : Int) ∧ 0 ≤ (a1.length : Int)) && room (a1.length : Int).toNat 16) then (let v2 : List ByteArray := (List.replicate (a1.length : Int).toNat (⟨#[]⟩ : ByteArray)); (laws_toStringS_L1 n n a1 (0 : Int) v2)) else none)
/-- loop.example/g00462/laws.toDdl -/
def laws_toDdl : Nat → Int → ByteArray → (List (ByteArray × (Int × (Bool × (Bool × (Int × (Int × ByteArray))))))) → (List ByteArray) → ByteArray → ByteArray → Option (Int × (ByteArray × ((List (ByteArray × (Int × (Bool × (Bool × (Int × (Int × ByteArray))))))) × ((List ByteArray) × (ByteArray × ByteArray)))))
  | 0, _, _, _, _, _, _ => none
  | n + 1, a1, a2, a3, a4, a5, a6 => (let v7 : List (ByteArray × (Int × (Bool × (Bool × (Int × (Int × ByteArray)))))) := ([] : List (ByteArray × (Int × (Bool × (Bool × (Int × (Int × ByteArray))))))); (let v8 : List (ByteArray × (Int × (Bool × (Bool × (Int × (Int × ByteArray)))))) := ([] : List (ByteArray × (Int × (Bool × (Bool × (Int × (Int × ByteArray))))))); ((laws_toColS n a3).bind fun r9 => ((laws_toStringS n a4).bind fun r10 => (some (a1, (a2, (r9, (r10, (a5, a6))))))))))
def spec_WordOk_L1 (n : Nat) : Nat → ByteArray → Int → Option Bool
  | 0, _, _ => none
  | j + 1, x2, x3 => (bif (decide (x3 < (x2.size : Int))) then (bif (inR x3 x2.size) then (bif (decide ((bt x2 x3) < (97 : Int))) then (some false) else (bif (inR x3 x2.size) then (bif (decide ((122 : Int) < (bt x2 x3))) then (some false) else (spec_WordOk_L1 n j x2 (IntKind.wrap .i64 (x3 + (1 : Int))))) else none)) else none) else (bif (decide ((1 : Int) ≤ (x2.size : Int))) then (some (decide ((x2.size : Int) ≤ (8 : Int)))) else (some false)))
/-- loop.example/g00462/spec.WordOk -/
def spec_WordOk : Nat → ByteArray → Option Bool
  | 0, _ => none
  | n + 1, a1 => (spec_WordOk_L1 n n a1 (0 : Int))
/-- loop.example/g00462/spec.l01Num -/
def spec_l01Num : Nat → Int → Option Bool
  | 0, _ => none
  | n + 1, a1 => (bif (decide ((-1099511627775 : Int) ≤ a1)) then (some (decide (a1 ≤ (1099511627775 : Int)))) else (some false))
/-- loop.example/g00462/spec.ValOk -/
def spec_ValOk : Nat → Int → Int → ByteArray → Option Bool
  | 0, _, _, _ => none
  | n + 1, a1, a2, a3 => (bif (a1 == (0 : Int)) then (bif (a2 == (0 : Int)) then (let v4 : Bool := (a3.toList == (⟨#[]⟩ : ByteArray).toList); (some v4)) else (some false)) else (bif (a1 == (1 : Int)) then (bif (a2 == (0 : Int)) then (let v5 : Bool := (a3.toList == (⟨#[]⟩ : ByteArray).toList); (some v5)) else (bif (a2 == (1 : Int)) then (let v6 : Bool := (a3.toList == (⟨#[]⟩ : ByteArray).toList); (some v6)) else (some false))) else (bif (a1 == (2 : Int)) then ((spec_l01Num n a2).bind fun r7 => (bif r7 then (let v8 : Bool := (a3.toList == (⟨#[]⟩ : ByteArray).toList); (some v8)) else (some false))) else (bif (a1 == (3 : Int)) then (bif (a2 == (0 : Int)) then (some (decide ((a3.size : Int) ≤ (30 : Int)))) else (some false)) else (some false)))))
/-- loop.example/g00462/spec.ColOk -/
def spec_ColOk : Nat → ByteArray → Int → Bool → Bool → Int → Int → ByteArray → Option Bool
  | 0, _, _, _, _, _, _, _ => none
  | n + 1, a1, a2, a3, a4, a5, a6, a7 => (let v8 : Bool := ((a5 == (0 : Int)) && ((a6 == (0 : Int)) && ((a7.toList == (⟨#[]⟩ : ByteArray).toList) && true))); ((spec_WordOk n a1).bind fun r9 => (bif (!r9) then (some false) else (bif (decide (a2 < (1 : Int))) then (some false) else (bif (decide ((3 : Int) < a2)) then (some false) else (bif (!a4) then (some v8) else ((spec_ValOk n a5 a6 a7).bind fun r10 => (bif r10 then (bif v8 then (bif v8 then (some (!a3)) else (some true)) else (bif (a5 == a2) then (bif v8 then (some (!a3)) else (some true)) else (some false))) else (some false)))))))))
def spec_ColAt_L1 (n : Nat) : Nat → ByteArray → List (ByteArray × (Int × (Bool × (Bool × (Int × (Int × ByteArray)))))) → Int → Int → Option Int
  | 0, _, _, _, _ => none
  | j + 1, x5, x6, x7, x8 => (bif (decide (x8 < x7)) then (bif (inR x8 x6.length) then (let v9 : (ByteArray × (Int × (Bool × (Bool × (Int × (Int × ByteArray)))))) := (x6.getD x8.toNat ((⟨#[]⟩ : ByteArray), ((0 : Int), (false, (false, ((0 : Int), ((0 : Int), (⟨#[]⟩ : ByteArray)))))))); (bif (v9.1.toList == x5.toList) then (some x8) else (spec_ColAt_L1 n j x5 x6 x7 (IntKind.wrap .i64 (x8 + (1 : Int)))))) else none) else (some (-1 : Int)))
/-- loop.example/g00462/spec.ColAt -/
def spec_ColAt : Nat → ByteArray → (List (ByteArray × (Int × (Bool × (Bool × (Int × (Int × ByteArray))))))) → (List ByteArray) → ByteArray → Option Int
  | 0, _, _, _, _ => none
  | n + 1, a1, a2, a3, a4 => (spec_ColAt_L1 n n a4 a2 (a2.length : Int) (0 : Int))
def spec_TableOk_L2 (n : Nat) : Nat → Int → List ByteArray → Int → Int → ByteArray → List (ByteArray × (Int × (Bool × (Bool × (Int × (Int × ByteArray)))))) → List ByteArray → Option Bool
  | 0, _, _, _, _, _, _, _ => none
  | j + 1, x17, x18, x19, x20, x21, x22, x23 => (bif (decide (x20 < x19)) then (bif (inR x20 x18.length) then (let v24 : ByteArray := (x18.getD x20.toNat (⟨#[]⟩ : ByteArray)); ((spec_ColAt n x21 x22 x23 v24).bind fun r25 => (bif (decide (r25 ≤ x17)) then (some false) else (bif (inR r25 x22.length) then (let v26 : (ByteArray × (Int × (Bool × (Bool × (Int × (Int × ByteArray)))))) := (x22.getD r25.toNat ((⟨#[]⟩ : ByteArray), ((0 : Int), (false, (false, ((0 : Int), ((0 : Int), (⟨#[]⟩ : ByteArray)))))))); (bif (!v26.2.2.1) then (some false) else (spec_TableOk_L2 n j r25 x18 x19 (IntKind.wrap .i64 (x20 + (1 : Int))) x21 x22 x23))) else none)))) else none) else (some true))
def spec_TableOk_L1 (n : Nat) : Nat → List (ByteArray × (Int × (Bool × (Bool × (Int × (Int × ByteArray)))))) → Int → Int → ByteArray → List (ByteArray × (Int × (Bool × (Bool × (Int × (Int × ByteArray)))))) → List ByteArray → Option Bool
  | 0, _, _, _, _, _, _ => none
  | j + 1, x8, x9, x10, x11, x12, x13 => (bif (decide (x10 < x9)) then (bif (inR x10 x8.length) then (let v14 : (ByteArray × (Int × (Bool × (Bool × (Int × (Int × ByteArray)))))) := (x8.getD x10.toNat ((⟨#[]⟩ : ByteArray), ((0 : Int), (false, (false, ((0 : Int), ((0 : Int), (⟨#[]⟩ : ByteArray)))))))); ((spec_ColOk n v14.1 v14.2.1 v14.2.2.1 v14.2.2.2.1 v14.2.2.2.2.1 v14.2.2.2.2.2.1 v14.2.2.2.2.2.2).bind fun r15 => (bif (!r15) then (some false) else ((spec_ColAt n x11 x12 x13 v14.1).bind fun r16 => (bif (r16 != x10) then (some false) else (spec_TableOk_L1 n j x8 x9 (IntKind.wrap .i64 (x10 + (1 : Int))) x11 x12 x13)))))) else none) else (spec_TableOk_L2 n n (-1 : Int) x13 (x13.length : Int) (0 : Int) x11 x12 x13))
/-- loop.example/g00462/spec.TableOk -/
def spec_TableOk : Nat → ByteArray → (List (ByteArray × (Int × (Bool × (Bool × (Int × (Int × ByteArray))))))) → (List ByteArray) → Option Bool
  | 0, _, _, _ => none
  | n + 1, a1, a2, a3 => ((spec_WordOk n a1).bind fun r4 => (bif (!r4) then (some false) else (let v5 : Bool := (decide ((a2.length : Int) < (1 : Int))); (bif v5 then (some false) else (let v6 : Bool := (decide ((8 : Int) < (a2.length : Int))); (bif v6 then (some false) else (let v7 : Bool := (decide ((a3.length : Int) < (1 : Int))); (bif v7 then (some false) else (spec_TableOk_L1 n n a2 (a2.length : Int) (0 : Int) a1 a2 a3)))))))))
/-- loop.example/g00462/spec.DdlOk -/
def spec_DdlOk : Nat → Int → ByteArray → (List (ByteArray × (Int × (Bool × (Bool × (Int × (Int × ByteArray))))))) → (List ByteArray) → ByteArray → ByteArray → Option Bool
  | 0, _, _, _, _, _, _ => none
  | n + 1, a1, a2, a3, a4, a5, a6 => ((spec_WordOk n a2).bind fun r7 => (bif (!r7) then (some false) else (bif ((a3.length : Int) == (0 : Int)) then (bif (a1 == (1 : Int)) then (let v8 : Bool := (a5.toList == (⟨#[]⟩ : ByteArray).toList); (bif v8 then (let v9 : Bool := (a6.toList == (⟨#[]⟩ : ByteArray).toList); (bif v9 then ((spec_TableOk n a2 a3 a4).bind fun r10 => (some r10)) else (some false))) else (some false))) else (bif (a1 == (2 : Int)) then (bif ((a4.length : Int) == (0 : Int)) then (let v11 : Bool := (a5.toList == (⟨#[]⟩ : ByteArray).toList); (bif v11 then (let v12 : Bool := (a6.toList == (⟨#[]⟩ : ByteArray).toList); (some v12)) else (some false))) else (some false)) else (bif (a1 == (3 : Int)) then (bif ((a3.length : Int) == (1 : Int)) then (bif (inR (0 : Int) a3.length) then (let v13 : (ByteArray × (Int × (Bool × (Bool × (Int × (Int × ByteArray)))))) := (a3.getD (0 : Int).toNat ((⟨#[]⟩ : ByteArray), ((0 : Int), (false, (false, ((0 : Int), ((0 : Int), (⟨#[]⟩ : ByteArray)))))))); ((spec_ColOk n v13.1 v13.2.1 v13.2.2.1 v13.2.2.2.1 v13.2.2.2.2.1 v13.2.2.2.2.2.1 v13.2.2.2.2.2.2).bind fun r14 => (bif r14 then (bif (inR (0 : Int) a3.length) then (let v15 : (ByteArray × (Int × (Bool × (Bool × (Int × (Int × ByteArray)))))) := (a3.getD (0 : Int).toNat ((⟨#[]⟩ : ByteArray), ((0 : Int), (false, (false, ((0 : Int), ((0 : Int), (⟨#[]⟩ : ByteArray)))))))); (bif v15.2.2.2.1 then (bif ((a4.length : Int) == (0 : Int)) then (let v16 : Bool := (a5.toList == (⟨#[]⟩ : ByteArray).toList); (bif v16 then (let v17 : Bool := (a6.toList == (⟨#[]⟩ : ByteArray).toList); (some v17)) else (some false))) else (some false)) else (bif (inR (0 : Int) a3.length) then (let v18 : (ByteArray × (Int × (Bool × (Bool × (Int × (Int × ByteArray)))))) := (a3.getD (0 : Int).toNat ((⟨#[]⟩ : ByteArray), ((0 : Int), (false, (false, ((0 : Int), ((0 : Int), (⟨#[]⟩ : ByteArray)))))))); (bif (!v18.2.2.1) then (bif ((a4.length : Int) == (0 : Int)) then (let v19 : Bool := (a5.toList == (⟨#[]⟩ : ByteArray).toList); (bif v19 then (let v20 : Bool := (a6.toList == (⟨#[]⟩ : ByteArray).toList); (some v20)) else (some false))) else (some false)) else (some false))) else none))) else none) else (some false)))) else none) else (some false)) else (bif (a1 == (4 : Int)) then (bif ((a4.length : Int) == (0 : Int)) then ((spec_WordOk n a5).bind fun r21 => (bif r21 then (let v22 : Bool := (a6.toList == (⟨#[]⟩ : ByteArray).toList); (some v22)) else (some false))) else (some false)) else (bif (a1 == (5 : Int)) then (bif ((a4.length : Int) == (0 : Int)) then ((spec_WordOk n a5).bind fun r23 => (bif r23 then ((spec_WordOk n a6).bind fun r24 => (some r24)) else (some false))) else (some false)) else (some false)))))) else (bif (a1 == (1 : Int)) then (let v25 : Bool := (a5.toList == (⟨#[]⟩ : ByteArray).toList); (bif v25 then (let v26 : Bool := (a6.toList == (⟨#[]⟩ : ByteArray).toList); (bif v26 then ((spec_TableOk n a2 a3 a4).bind fun r27 => (some r27)) else (some false))) else (some false))) else (bif (a1 == (2 : Int)) then (some false) else (bif (a1 == (3 : Int)) then (bif ((a3.length : Int) == (1 : Int)) then (bif (inR (0 : Int) a3.length) then (let v28 : (ByteArray × (Int × (Bool × (Bool × (Int × (Int × ByteArray)))))) := (a3.getD (0 : Int).toNat ((⟨#[]⟩ : ByteArray), ((0 : Int), (false, (false, ((0 : Int), ((0 : Int), (⟨#[]⟩ : ByteArray)))))))); ((spec_ColOk n v28.1 v28.2.1 v28.2.2.1 v28.2.2.2.1 v28.2.2.2.2.1 v28.2.2.2.2.2.1 v28.2.2.2.2.2.2).bind fun r29 => (bif r29 then (bif (inR (0 : Int) a3.length) then (let v30 : (ByteArray × (Int × (Bool × (Bool × (Int × (Int × ByteArray)))))) := (a3.getD (0 : Int).toNat ((⟨#[]⟩ : ByteArray), ((0 : Int), (false, (false, ((0 : Int), ((0 : Int), (⟨#[]⟩ : ByteArray)))))))); (bif v30.2.2.2.1 then (bif ((a4.length : Int) == (0 : Int)) then (let v31 : Bool := (a5.toList == (⟨#[]⟩ : ByteArray).toList); (bif v31 then (let v32 : Bool := (a6.toList == (⟨#[]⟩ : ByteArray).toList); (some v32)) else (some false))) else (some false)) else (bif (inR (0 : Int) a3.length) then (let v33 : (ByteArray × (Int × (Bool × (Bool × (Int × (Int × ByteArray)))))) := (a3.getD (0 : Int).toNat ((⟨#[]⟩ : ByteArray), ((0 : Int), (false, (false, ((0 : Int), ((0 : Int), (⟨#[]⟩ : ByteArray)))))))); (bif (!v33.2.2.1) then (bif ((a4.length : Int) == (0 : Int)) then (let v34 : Bool := (a5.toList == (⟨#[]⟩ : ByteArray).toList); (bif v34 then (let v35 : Bool := (a6.toList == (⟨#[]⟩ : ByteArray).toList); (some v35)) else (some false))) else (some false)) else (some false))) else none))) else none) else (some false)))) else none) else (some false)) else (bif (a1 == (4 : Int)) then (some false) else (bif (a1 == (5 : Int)) then (some false) else (some false)))))))))
/-- loop.example/g00462/impl.within -/
def impl_within : Nat → Int → Int → Int → Option Bool
  | 0, _, _, _ => none
  | n + 1, a1, a2, a3 => (bif (decide (a2 ≤ a1)) then (some (decide (a1 ≤ a3))) else (some false))
def impl_WordOk_L1 (n : Nat) : Nat → ByteArray → Int → Option Bool
  | 0, _, _ => none
  | j + 1, x2, x3 => (bif (decide (x3 < (x2.size : Int))) then (bif (inR x3 x2.size) then (bif (decide ((bt x2 x3) < (97 : Int))) then (some false) else (bif (inR x3 x2.size) then (bif (decide ((122 : Int) < (bt x2 x3))) then (some false) else (impl_WordOk_L1 n j x2 (IntKind.wrap .i64 (x3 + (1 : Int))))) else none)) else none) else ((impl_within n (x2.size : Int) (1 : Int) (8 : Int)).bind fun r4 => (some r4)))
/-- loop.example/g00462/impl.WordOk -/
def impl_WordOk : Nat → ByteArray → Option Bool
  | 0, _ => none
  | n + 1, a1 => (impl_WordOk_L1 n n a1 (0 : Int))
/-- loop.example/g00462/impl.copyTexts -/
def impl_copyTexts : Nat → (List ByteArray) → Option (List ByteArray)
  | 0, _ => none
  | n + 1, a1 => (bif (room a1.length 16) then (some a1) else none)
/-- loop.example/g00462/impl.copyTable -/
def impl_copyTable : Nat → ByteArray → (List (ByteArray × (Int × (Bool × (Bool × (Int × (Int × ByteArray))))))) → (List ByteArray) → Option (ByteArray × ((List (ByteArray × (Int × (Bool × (Bool × (Int × (Int × ByteArray))))))) × (List ByteArray)))
  | 0, _, _, _ => none
  | n + 1, a1, a2, a3 => (let v4 : List (ByteArray × (Int × (Bool × (Bool × (Int × (Int × ByteArray)))))) := ([] : List (ByteArray × (Int × (Bool × (Bool × (Int × (Int × ByteArray))))))); (bif (room a2.length 64) then ((impl_copyTexts n a3).bind fun r5 => (some (a1, (a2, r5)))) else none))
/-- (loop.example/g00462/impl.Ddl).made -/
def impl_Ddl_made : Nat → Int → ByteArray → (List (ByteArray × (Int × (Bool × (Bool × (Int × (Int × ByteArray))))))) → (List ByteArray) → ByteArray → ByteArray → Option (ByteArray × ((List (ByteArray × (Int × (Bool × (Bool × (Int × (Int × ByteArray))))))) × (List ByteArray)))
  | 0, _, _, _, _, _, _ => none
  | n + 1, a1, a2, a3, a4, a5, a6 => (let v7 : List (ByteArray × (Int × (Bool × (Bool × (Int × (Int × ByteArray)))))) := ([] : List (ByteArray × (Int × (Bool × (Bool × (Int × (Int × ByteArray))))))); ((impl_copyTable n a2 a3 a4).bind fun r8 => (some (r8.1, (r8.2.1, r8.2.2)))))
/-- loop.example/g00462/impl.ValOk -/
def impl_ValOk : Nat → Int → Int → ByteArray → Option Bool
  | 0, _, _, _ => none
  | n + 1, a1, a2, a3 => (bif (a1 == (0 : Int)) then (let v4 : Bool := ((a1 == (0 : Int)) && ((a2 == (0 : Int)) && ((a3.toList == (⟨#[]⟩ : ByteArray).toList) && true))); (some v4)) else (bif (a1 == (1 : Int)) then ((impl_within n a2 (0 : Int) (1 : Int)).bind fun r5 => (bif r5 then (let v6 : Bool := (a3.toList == (⟨#[]⟩ : ByteArray).toList); (some v6)) else (some false))) else (bif (a1 == (2 : Int)) then ((impl_within n a2 (-1099511627775 : Int) (1099511627775 : Int)).bind fun r7 => (bif r7 then (let v8 : Bool := (a3.toList == (⟨#[]⟩ : ByteArray).toList); (some v8)) else (some false))) else (bif (a1 == (3 : Int)) then (bif (a2 == (0 : Int)) then (some (decide ((a3.size : Int) ≤ (30 : Int)))) else (some false)) else (some false)))))
/-- loop.example/g00462/impl.ColOk -/
def impl_ColOk : Nat → ByteArray → Int → Bool → Bool → Int → Int → ByteArray → Option Bool
  | 0, _, _, _, _, _, _, _ => none
  | n + 1, a1, a2, a3, a4, a5, a6, a7 => ((impl_WordOk n a1).bind fun r8 => (bif (!r8) then (some false) else ((impl_within n a2 (1 : Int) (3 : Int)).bind fun r9 => (bif (!r9) then (some false) else ((impl_ValOk n a5 a6 a7).bind fun r10 => (bif (!r10) then (some false) else (bif (!a4) then (let v11 : Bool := ((a5 == (0 : Int)) && ((a6 == (0 : Int)) && ((a7.toList == (⟨#[]⟩ : ByteArray).toList) && true))); (some v11)) else (bif (a5 == a2) then (some true) else (bif (a5 == (0 : Int)) then (some (!a3)) else (some false))))))))))
/-- loop.example/g00462/impl.ColAt$1 -/
def impl_ColAt_1 : Nat → ByteArray → Int → Bool → Bool → Int → Int → ByteArray → ByteArray → Option Bool
  | 0, _, _, _, _, _, _, _, _ => none
  | n + 1, a1, a2, a3, a4, a5, a6, a7, a8 => (some (a1.toList == a8.toList))
def slices_IndexFunc_impl_Col_impl_Col__impl_ColAt_1_L1 (n : Nat) : Nat → List (ByteArray × (Int × (Bool × (Bool × (Int × (Int × ByteArray)))))) → ByteArray → Int → Int → Option Int
  | 0, _, _, _, _ => none
  | j + 1, x3, x4, x5, x6 => (bif (decide (x6 < x5)) then (bif (inR x6 x3.length) then (let v7 : (ByteArray × (Int × (Bool × (Bool × (Int × (Int × ByteArray)))))) := (x3.getD x6.toNat ((⟨#[]⟩ : ByteArray), ((0 : Int), (false, (false, ((0 : Int), ((0 : Int), (⟨#[]⟩ : ByteArray)))))))); ((impl_ColAt_1 n v7.1 v7.2.1 v7.2.2.1 v7.2.2.2.1 v7.2.2.2.2.1 v7.2.2.2.2.2.1 v7.2.2.2.2.2.2 x4).bind fun r8 => (bif r8 then (some x6) else (slices_IndexFunc_impl_Col_impl_Col__impl_ColAt_1_L1 n j x3 x4 x5 (IntKind.wrap .i64 (x6 + (1 : Int))))))) else none) else (some (-1 : Int)))
/-- slices.IndexFunc[[]loop.example/g00462/impl.Col,loop.example/g00462/impl.Col] -/
def slices_IndexFunc_impl_Col_impl_Col__impl_ColAt_1 : Nat → (List (ByteArray × (Int × (Bool × (Bool × (Int × (Int × ByteArray))))))) → ByteArray → Option Int
  | 0, _, _ => none
  | n + 1, a1, a2 => (slices_IndexFunc_impl_Col_impl_Col__impl_ColAt_1_L1 n n a1 a2 (a1.length : Int) (0 : Int))
/-- loop.example/g00462/impl.ColAt -/
def impl_ColAt : Nat → ByteArray → (List (ByteArray × (Int × (Bool × (Bool × (Int × (Int × ByteArray))))))) → (List ByteArray) → ByteArray → Option Int
  | 0, _, _, _, _ => none
  | n + 1, a1, a2, a3, a4 => ((slices_IndexFunc_impl_Col_impl_Col__impl_ColAt_1 n a2 a4).bind fun r5 => (some r5))
def impl_TableOk_L2 (n : Nat) : Nat → Int → List ByteArray → Int → Int → ByteArray → List (ByteArray × (Int × (Bool × (Bool × (Int × (Int × ByteArray)))))) → List ByteArray → Option Bool
  | 0, _, _, _, _, _, _, _ => none
  | j + 1, x13, x14, x15, x16, x17, x18, x19 => (bif (decide (x16 < x15)) then (bif (inR x16 x14.length) then (let v20 : ByteArray := (x14.getD x16.toNat (⟨#[]⟩ : ByteArray)); ((impl_ColAt n x17 x18 x19 v20).bind fun r21 => (bif (decide (r21 ≤ x13)) then (some false) else (bif (inR r21 x18.length) then (let v22 : (ByteArray × (Int × (Bool × (Bool × (Int × (Int × ByteArray)))))) := (x18.getD r21.toNat ((⟨#[]⟩ : ByteArray), ((0 : Int), (false, (false, ((0 : Int), ((0 : Int), (⟨#[]⟩ : ByteArray)))))))); (bif (!v22.2.2.1) then (some false) else (impl_TableOk_L2 n j r21 x14 x15 (IntKind.wrap .i64 (x16 + (1 : Int))) x17 x18 x19))) else none)))) else none) else ((impl_WordOk n x17).bind fun r23 => (bif r23 then ((impl_within n (x18.length : Int) (1 : Int) (8 : Int)).bind fun r24 => (bif r24 then (let v25 : Bool := (decide ((0 : Int) < (x19.length : Int))); (some v25)) else (some false))) else (some false))))
def impl_TableOk_L1 (n : Nat) : Nat → List (ByteArray × (Int × (Bool × (Bool × (Int × (Int × ByteArray)))))) → Int → Int → ByteArray → List (ByteArray × (Int × (Bool × (Bool × (Int × (Int × ByteArray)))))) → List ByteArray → Option Bool
  | 0, _, _, _, _, _, _ => none
  | j + 1, x4, x5, x6, x7, x8, x9 => (bif (decide (x6 < x5)) then (bif (inR x6 x4.length) then (let v10 : (ByteArray × (Int × (Bool × (Bool × (Int × (Int × ByteArray)))))) := (x4.getD x6.toNat ((⟨#[]⟩ : ByteArray), ((0 : Int), (false, (false, ((0 : Int), ((0 : Int), (⟨#[]⟩ : ByteArray)))))))); ((impl_ColOk n v10.1 v10.2.1 v10.2.2.1 v10.2.2.2.1 v10.2.2.2.2.1 v10.2.2.2.2.2.1 v10.2.2.2.2.2.2).bind fun r11 => (bif (!r11) then (some false) else ((impl_ColAt n x7 x8 x9 v10.1).bind fun r12 => (bif (r12 != x6) then (some false) else (impl_TableOk_L1 n j x4 x5 (IntKind.wrap .i64 (x6 + (1 : Int))) x7 x8 x9)))))) else none) else (impl_TableOk_L2 n n (-1 : Int) x9 (x9.length : Int) (0 : Int) x7 x8 x9))
/-- loop.example/g00462/impl.TableOk -/
def impl_TableOk : Nat → ByteArray → (List (ByteArray × (Int × (Bool × (Bool × (Int × (Int × ByteArray))))))) → (List ByteArray) → Option Bool
  | 0, _, _, _ => none
  | n + 1, a1, a2, a3 => (impl_TableOk_L1 n n a2 (a2.length : Int) (0 : Int) a1 a2 a3)
def slices_Equal_impl_Col_impl_Col_L1 (n : Nat) : Nat → List (ByteArray × (Int × (Bool × (Bool × (Int × (Int × ByteArray)))))) → List (ByteArray × (Int × (Bool × (Bool × (Int × (Int × ByteArray)))))) → Int → Int → Option Bool
  | 0, _, _, _, _ => none
  | j + 1, x4, x5, x6, x7 => (bif (decide (x7 < x6)) then (bif (inR x7 x4.length) then (let v8 : (ByteArray × (Int × (Bool × (Bool × (Int × (Int × ByteArray)))))) := (x4.getD x7.toNat ((⟨#[]⟩ : ByteArray), ((0 : Int), (false, (false, ((0 : Int), ((0 : Int), (⟨#[]⟩ : ByteArray)))))))); (bif (inR x7 x5.length) then (let v9 : (ByteArray × (Int × (Bool × (Bool × (Int × (Int × ByteArray)))))) := (x5.getD x7.toNat ((⟨#[]⟩ : ByteArray), ((0 : Int), (false, (false, ((0 : Int), ((0 : Int), (⟨#[]⟩ : ByteArray)))))))); (let v10 : Bool := (!((v8.1.toList == v9.1.toList) && ((v8.2.1 == v9.2.1) && ((v8.2.2.1 == v9.2.2.1) && ((v8.2.2.2.1 == v9.2.2.2.1) && ((v8.2.2.2.2.1 == v9.2.2.2.2.1) && ((v8.2.2.2.2.2.1 == v9.2.2.2.2.2.1) && ((v8.2.2.2.2.2.2.toList == v9.2.2.2.2.2.2.toList) && true)))))))); (bif v10 then (some false) else (slices_Equal_impl_Col_impl_Col_L1 n j x4 x5 x6 (IntKind.wrap .i64 (x7 + (1 : Int))))))) else none)) else none) else (some true))
/-- slices.Equal[[]loop.example/g00462/impl.Col,loop.example/g00462/impl.Col] -/
def slices_Equal_impl_Col_impl_Col : Nat → (List (ByteArray × (Int × (Bool × (Bool × (Int × (Int × ByteArray))))))) → (List (ByteArray × (Int × (Bool × (Bool × (Int × (Int × ByteArray))))))) → Option Bool
  | 0, _, _ => none
  | n + 1, a1, a2 => (let v3 : Bool := ((a1.length : Int) != (a2.length : Int)); (bif v3 then (some false) else (slices_Equal_impl_Col_impl_Col_L1 n n a1 a2 (a1.length : Int) (0 : Int))))
def slices_Equal_string_string_L1 (n : Nat) : Nat → List ByteArray → List ByteArray → Int → Int → Option Bool
  | 0, _, _, _, _ => none
  | j + 1, x4, x5, x6, x7 => (bif (decide (x7 < x6)) then (bif (inR x7 x4.length) then (bif (inR x7 x5.length) then (let v8 : Bool := (!((x4.getD x7.toNat (⟨#[]⟩ : ByteArray)).toList == (x5.getD x7.toNat (⟨#[]⟩ : ByteArray)).toList)); (bif v8 then (some false) else (slices_Equal_string_string_L1 n j x4 x5 x6 (IntKind.wrap .i64 (x7 + (1 : Int)))))) else none) else none) else (some true))
/-- slices.Equal[[]string,string] -/
def slices_Equal_string_string : Nat → (List ByteArray) → (List ByteArray) → Option Bool
  | 0, _, _ => none
  | n + 1, a1, a2 => (let v3 : Bool := ((a1.length : Int) != (a2.length : Int)); (bif v3 then (some false) else (slices_Equal_string_string_L1 n n a1 a2 (a1.length : Int) (0 : Int))))
/-- loop.example/g00462/impl.equalDdl -/
def impl_equalDdl : Nat → Int → ByteArray → (List (ByteArray × (Int × (Bool × (Bool × (Int × (Int × ByteArray))))))) → (List ByteArray) → ByteArray → ByteArray → Int → ByteArray → (List (ByteArray × (Int × (Bool × (Bool × (Int × (Int × ByteArray))))))) → (List ByteArray) → ByteArray → ByteArray → Option Bool
  | 0, _, _, _, _, _, _, _, _, _, _, _, _ => none
  | n + 1, a1, a2, a3, a4, a5, a6, a7, a8, a9, a10, a11, a12 => (bif (a1 == a7) then (bif (a2.toList == a8.toList) then ((slices_Equal_impl_Col_impl_Col n a3 a9).bind fun r13 => (bif r13 then ((slices_Equal_string_string n a4 a10).bind fun r14 => (bif r14 then (bif (a5.toList == a11.toList) then (some (a6.toList == a12.toList)) else (some false)) else (some false))) else (some false))) else (some false)) else (some false))
/-- loop.example/g00462/impl.DdlOk -/
def impl_DdlOk : Nat → Int → ByteArray → (List (ByteArray × (Int × (Bool × (Bool × (Int × (Int × ByteArray))))))) → (List ByteArray) → ByteArray → ByteArray → Option Bool
  | 0, _, _, _, _, _, _ => none
  | n + 1, a1, a2, a3, a4, a5, a6 => ((impl_WordOk n a2).bind fun r7 => (bif (!r7) then (some false) else (let v8 : List (ByteArray × (Int × (Bool × (Bool × (Int × (Int × ByteArray)))))) := ([] : List (ByteArray × (Int × (Bool × (Bool × (Int × (Int × ByteArray))))))); (let v9 : List (ByteArray × (Int × (Bool × (Bool × (Int × (Int × ByteArray)))))) := ([] : List (ByteArray × (Int × (Bool × (Bool × (Int × (Int × ByteArray))))))); (bif (a1 == (1 : Int)) then ((impl_Ddl_made n a1 a2 a3 a4 a5 a6).bind fun r10 => ((impl_TableOk n r10.1 r10.2.1 r10.2.2).bind fun r11 => (bif r11 then (let v12 : Bool := (a5.toList == (⟨#[]⟩ : ByteArray).toList); (bif v12 then (let v13 : Bool := (a6.toList == (⟨#[]⟩ : ByteArray).toList); (some v13)) else (some false))) else (some false)))) else (bif (a1 == (2 : Int)) then ((impl_equalDdl n a1 a2 a3 a4 a5 a6 a1 a2 v8 ([] : List ByteArray) (⟨#[]⟩ : ByteArray) (⟨#[]⟩ : ByteArray)).bind fun r14 => (some r14)) else (bif (a1 == (3 : Int)) then ((impl_equalDdl n a1 a2 a3 a4 a5 a6 a1 a2 a3 ([] : List ByteArray) (⟨#[]⟩ : ByteArray) (⟨#[]⟩ : ByteArray)).bind fun r15 => (bif r15 then (bif ((a3.length : Int) == (1 : Int)) then (bif (inR (0 : Int) a3.length) then (let v16 : (ByteArray × (Int × (Bool × (Bool × (Int × (Int × ByteArray)))))) := (a3.getD (0 : Int).toNat ((⟨#[]⟩ : ByteArray), ((0 : Int), (false, (false, ((0 : Int), ((0 : Int), (⟨#[]⟩ : ByteArray)))))))); ((impl_ColOk n v16.1 v16.2.1 v16.2.2.1 v16.2.2.2.1 v16.2.2.2.2.1 v16.2.2.2.2.2.1 v16.2.2.2.2.2.2).bind fun r17 => (bif r17 then (bif (inR (0 : Int) a3.length) then (let v18 : (ByteArray × (Int × (Bool × (Bool × (Int × (Int × ByteArray)))))) := (a3.getD (0 : Int).toNat ((⟨#[]⟩ : ByteArray), ((0 : Int), (false, (false, ((0 : Int), ((0 : Int), (⟨#[]⟩ : ByteArray)))))))); (bif v18.2.2.2.1 then (some true) else (bif (inR (0 : Int) a3.length) then (let v19 : (ByteArray × (Int × (Bool × (Bool × (Int × (Int × ByteArray)))))) := (a3.getD (0 : Int).toNat ((⟨#[]⟩ : ByteArray), ((0 : Int), (false, (false, ((0 : Int), ((0 : Int), (⟨#[]⟩ : ByteArray)))))))); (some (!v19.2.2.1))) else none))) else none) else (some false)))) else none) else (some false)) else (some false))) else (bif (a1 == (4 : Int)) then ((impl_equalDdl n a1 a2 a3 a4 a5 a6 a1 a2 v8 ([] : List ByteArray) a5 (⟨#[]⟩ : ByteArray)).bind fun r20 => (bif r20 then ((impl_WordOk n a5).bind fun r21 => (some r21)) else (some false))) else (bif (a1 == (5 : Int)) then ((impl_equalDdl n a1 a2 a3 a4 a5 a6 a1 a2 v8 ([] : List ByteArray) a5 a6).bind fun r22 => (bif r22 then ((impl_WordOk n a5).bind fun r23 => (bif r23 then ((impl_WordOk n a6).bind fun r24 => (some r24)) else (some false))) else (some false))) else (some false))))))))))
/-- loop.example/g00462/laws.eqVal -/
def laws_eqVal : Nat → Int → Int → ByteArray → Int → Int → ByteArray → Option Bool
  | 0, _, _, _, _, _, _ => none
  | n + 1, a1, a2, a3, a4, a5, a6 => (bif (a1 != a4) then (some false) else (bif (a2 != a5) then (some false) else (bif (!(a3.toList == a6.toList)) then (some false) else (some true))))
/-- loop.example/g00462/laws.eqCol -/
def laws_eqCol : Nat → ByteArray → Int → Bool → Bool → Int → Int → ByteArray → ByteArray → Int → Bool → Bool → Int → Int → ByteArray → Option Bool
  | 0, _, _, _, _, _, _, _, _, _, _, _, _, _, _ => none
  | n + 1, a1, a2, a3, a4, a5, a6, a7, a8, a9, a10, a11, a12, a13, a14 => (bif (!(a1.toList == a8.toList)) then (some false) else (bif (a2 != a9) then (some false) else (bif (!(a3 == a10)) then (some false) else (bif (!(a4 == a11)) then (some false) else ((laws_eqVal n a5 a6 a7 a12 a13 a14).bind fun r15 => (bif (!r15) then (some false) else (some true)))))))
def laws_eqColS_L1 (n : Nat) : Nat → List (ByteArray × (Int × (Bool × (Bool × (Int × (Int × ByteArray)))))) → List (ByteArray × (Int × (Bool × (Bool × (Int × (Int × ByteArray)))))) → Int → Option Bool
  | 0, _, _, _ => none
  | j + 1, x4, x5, x6 => (bif (decide (x6 < (x4.length : Int))) then (bif (inR x6 x4.length) then (let v7 : (ByteArray × (Int × (Bool × (Bool × (Int × (Int × ByteArray)))))) := (x4.getD x6.toNat ((⟨#[]⟩ : ByteArray), ((0 : Int), (false, (false, ((0 : Int), ((0 : Int), (⟨#[]⟩ : ByteArray)))))))); (bif (inR x6 x5.length) then (let v8 : (ByteArray × (Int × (Bool × (Bool × (Int × (Int × ByteArray)))))) := (x5.getD x6.toNat ((⟨#[]⟩ : ByteArray), ((0 : Int), (false, (false, ((0 : Int), ((0 : Int), (⟨#[]⟩ : ByteArray)))))))); ((laws_eqCol n v7.1 v7.2.1 v7.2.2.1 v7.2.2.2.1 v7.2.2.2.2.1 v7.2.2.2.2.2.1 v7.2.2.2.2.2.2 v8.1 v8.2.1 v8.2.2.1 v8.2.2.2.1 v8.2.2.2.2.1 v8.2.2.2.2.2.1 v8.2.2.2.2.2.2).bind fun r9 => (bif (!r9) then (some false) else (laws_eqColS_L1 n j x4 x5 (IntKind.wrap .i64 (x6 + (1 : Int))))))) else none)) else none) else (some true))
/-- loop.example/g00462/laws.eqColS -/
def laws_eqColS : Nat → (List (ByteArray × (Int × (Bool × (Bool × (Int × (Int × ByteArray))))))) → (List (ByteArray × (Int × (Bool × (Bool × (Int × (Int × ByteArray))))))) → Option Bool
  | 0, _, _ => none
  | n + 1, a1, a2 => (let v3 : Bool := ((a1.length : Int) != (a2.length : Int)); (bif v3 then (some false) else (laws_eqColS_L1 n n a1 a2 (0 : Int))))
def laws_eqStringS_L1 (n : Nat) : Nat → List ByteArray → List ByteArray → Int → Option Bool
  | 0, _, _, _ => none
  | j + 1, x4, x5, x6 => (bif (decide (x6 < (x4.length : Int))) then (bif (inR x6 x4.length) then (bif (inR x6 x5.length) then (let v7 : Bool := (!((x4.getD x6.toNat (⟨#[]⟩ : ByteArray)).toList == (x5.getD x6.toNat (⟨#[]⟩ : ByteArray)).toList)); (bif v7 then (some false) else (laws_eqStringS_L1 n j x4 x5 (IntKind.wrap .i64 (x6 + (1 : Int)))))) else none) else none) else (some true))
/-- loop.example/g00462/laws.eqStringS -/
def laws_eqStringS : Nat → (List ByteArray) → (List ByteArray) → Option Bool
  | 0, _, _ => none
  | n + 1, a1, a2 => (let v3 : Bool := ((a1.length : Int) != (a2.length : Int)); (bif v3 then (some false) else (laws_eqStringS_L1 n n a1 a2 (0 : Int))))
/-- loop.example/g00462/laws.eqDdl -/
def laws_eqDdl : Nat → Int → ByteArray → (List (ByteArray × (Int × (Bool × (Bool × (Int × (Int × ByteArray))))))) → (List ByteArray) → ByteArray → ByteArray → Int → ByteArray → (List (ByteArray × (Int × (Bool × (Bool × (Int × (Int × ByteArray))))))) → (List ByteArray) → ByteArray → ByteArray → Option Bool
  | 0, _, _, _, _, _, _, _, _, _, _, _, _ => none
  | n + 1, a1, a2, a3, a4, a5, a6, a7, a8, a9, a10, a11, a12 => (bif (a1 != a7) then (some false) else (bif (!(a2.toList == a8.toList)) then (some false) else ((laws_eqColS n a3 a9).bind fun r13 => (bif (!r13) then (some false) else ((laws_eqStringS n a4 a10).bind fun r14 => (bif (!r14) then (some false) else (bif (!(a5.toList == a11.toList)) then (some false) else (bif (!(a6.toList == a12.toList)) then (some false) else (some true)))))))))
/-- loop.example/g00462/laws.FnExactDdlOk -/
def laws_FnExactDdlOk : Nat → Int → ByteArray → (List (ByteArray × (Int × (Bool × (Bool × (Int × (Int × ByteArray))))))) → (List ByteArray) → ByteArray → ByteArray → Option Bool
  | 0, _, _, _, _, _, _ => none
  | n + 1, a1, a2, a3, a4, a5, a6 => ((laws_szDdl n a1 a2 a3 a4 a5 a6 (1048576 : Int)).bind fun r7 => (bif (decide (r7 < (0 : Int))) then (some true) else ((laws_toDdl n a1 a2 a3 a4 a5 a6).bind fun r8 => ((spec_DdlOk n r8.1 r8.2.1 r8.2.2.1 r8.2.2.2.1 r8.2.2.2.2.1 r8.2.2.2.2.2).bind fun r9 => ((laws_toDdl n a1 a2 a3 a4 a5 a6).bind fun r10 => (let v11 : List (ByteArray × (Int × (Bool × (Bool × (Int × (Int × ByteArray)))))) := ([] : List (ByteArray × (Int × (Bool × (Bool × (Int × (Int × ByteArray))))))); ((impl_DdlOk n r10.1 r10.2.1 r10.2.2.1 r10.2.2.2.1 r10.2.2.2.2.1 r10.2.2.2.2.2).bind fun r12 => (bif (!(r12 == r9)) then (some false) else ((laws_toDdl n a1 a2 a3 a4 a5 a6).bind fun r13 => ((laws_eqDdl n r10.1 r10.2.1 r10.2.2.1 r10.2.2.2.1 r10.2.2.2.2.1 r10.2.2.2.2.2 r13.1 r13.2.1 r13.2.2.1 r13.2.2.2.1 r13.2.2.2.2.1 r13.2.2.2.2.2).bind fun r14 => (bif (!r14) then (some false) else (some true))))))))))))
end Go.Proofs.Ytaokfhkeplagcaa.Ev

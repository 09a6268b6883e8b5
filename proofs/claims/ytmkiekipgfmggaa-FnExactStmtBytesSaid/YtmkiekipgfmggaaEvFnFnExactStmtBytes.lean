/- The functions that the law FnExactStmtBytes reaches, as typed functions. -/
import Derived.Test.YtmkiekipgfmggaaEvCore
set_option linter.all false
namespace Go.Proofs.Ytmkiekipgfmggaa.Ev
open Go
/-- loop.example/g00462/laws.szVal -/
def laws_szVal : Nat → Int → Int → ByteArray → Int → Option Int
  | 0, _, _, _, _ => none
  | n + 1, a1, a2, a3, a4 => (let v5 : Int := (IntKind.wrap .i64 (a4 - (a3.size : Int))); (bif (decide (v5 < (0 : Int))) then (some (-1 : Int)) else (some v5)))
def laws_szValS_L1 (n : Nat) : Nat → List (Int × (Int × ByteArray)) → Int → Int → Option Int
  | 0, _, _, _ => none
  | j + 1, x4, x5, x6 => (bif (decide (x6 < (x4.length : Int))) then (bif (inR x6 x4.length) then (let v7 : (Int × (Int × ByteArray)) := (x4.getD x6.toNat ((0 : Int), ((0 : Int), (⟨#[]⟩ : ByteArray)))); ((laws_szVal n v7.1 v7.2.1 v7.2.2 x5).bind fun r8 => (bif (decide (r8 < (0 : Int))) then (some (-1 : Int)) else (laws_szValS_L1 n j x4 r8 (IntKind.wrap .i64 (x6 + (1 : Int))))))) else none) else (some x5))
/-- loop.example/g00462/laws.szValS -/
def laws_szValS : Nat → (List (Int × (Int × ByteArray))) → Int → Option Int
  | 0, _, _ => none
  | n + 1, a1, a2 => (let v3 : Int := (IntKind.wrap .i64 (a2 - (a1.length : Int))); (bif (decide (v3 < (0 : Int))) then (some (-1 : Int)) else (laws_szValS_L1 n n a1 v3 (0 : Int))))
/-- loop.example/g00462/laws.szRow -/
def laws_szRow : Nat → (List (Int × (Int × ByteArray))) → Int → Option Int
  | 0, _, _ => none
  | n + 1, a1, a2 => ((laws_szValS n a1 a2).bind fun r3 => (bif (decide (r3 < (0 : Int))) then (some (-1 : Int)) else (some r3)))
/-- loop.example/g00462/laws.szCol -/
def laws_szCol : Nat → ByteArray → Int → Bool → Bool → Int → Int → ByteArray → Int → Option Int
  | 0, _, _, _, _, _, _, _, _ => none
  | n + 1, a1, a2, a3, a4, a5, a6, a7, a8 => (let v9 : Int := (IntKind.wrap .i64 (a8 - (a1.size : Int))); (bif (decide (v9 < (0 : Int))) then (some (-1 : Int)) else ((laws_szVal n a5 a6 a7 v9).bind fun r10 => (bif (decide (r10 < (0 : Int))) then (some (-1 : Int)) else (some r10)))))
def laws_szColS_L1 (n : Nat) : Nat → List (ByteArray × (Int × (Bool × (Bool × (Int × (Int × ByteArray)))))) → Int → Int → Option Int
  | 0, _, _, _ => none
  | j + 1, x4, x5, x6 => (bif (decide (x6 < (x4.length : Int))) then (bif (inR x6 x4.length) then (let v7 : (ByteArray × (Int × (Bool × (Bool × (Int × (Int × ByteArray)))))) := (x4.getD x6.toNat ((⟨#[]⟩ : ByteArray), ((0 : Int), (false, (false, ((0 : Int), ((0 : Int), (⟨#[]⟩ : ByteArray)))))))); ((laws_szCol n v7.1 v7.2.1 v7.2.2.1 v7.2.2.2.1 v7.2.2.2.2.1 v7.2.2.2.2.2.1 v7.2.2.2.2.2.2 x5).bind fun r8 => (bif (decide (r8 < (0 : Int))) then (some (-1 : Int)) else (laws_szColS_L1 n j x4 r8 (IntKind.wrap .i64 (x6 + (1 : Int))))))) else none) else (some x5))
/-- loop.example/g00462/laws.szColS -/
def laws_szColS : Nat → (List (ByteArray × (Int × (Bool × (Bool × (Int × (Int × ByteArray))))))) → Int → Option Int
  | 0, _, _ => none
  | n + 1, a1, a2 => (let v3 : Int := (IntKind.wrap .i64 (a2 - (a1.length : Int))); (bif (decide (v3 < (0 : Int))) then (some (-1 : Int)) else (laws_szColS_L1 n n a1 v3 (0 : Int))))
def laws_szStringS_L1 (n : Nat) : Nat → List ByteArray → Int → Int → Option Int
  | 0, _, _, _ => none
  | j + 1, x4, x5, x6 => (bif (decide (x6 < (x4.length : Int))) then (bif (inR x6 x4.length) then (let v7 : Int := ((x4.getD x6.toNat (⟨#[]⟩ : ByteArray)).size : Int); (let v8 : Bool := (decide ((IntKind.wrap .i64 (x5 - v7)) < (0 : Int))); (bif v8 then (some (-1 : Int)) else (laws_szStringS_L1 n j x4 (IntKind.wrap .i64 (x5 - v7)) (IntKind.wrap .i64 (x6 + (1 : Int))))))) else none) else (some x5))
/-- loop.example/g00462/laws.szStringS -/
def laws_szStringS : Nat → (List ByteArray) → Int → Option Int
  | 0, _, _ => none
  | n + 1, a1, a2 => (let v3 : Int := (IntKind.wrap .i64 (a2 - (a1.length : Int))); (bif (decide (v3 < (0 : Int))) then (some (-1 : Int)) else (laws_szStringS_L1 n n a1 v3 (0 : Int))))
/-- loop.example/g00462/laws.szDdl -/
def laws_szDdl : Nat → Int → ByteArray → (List (ByteArray × (Int × (Bool × (Bool × (Int × (Int × ByteArray))))))) → (List ByteArray) → ByteArray → ByteArray → Int → Option Int
  | 0, _, _, _, _, _, _, _ => none
  | n + 1, a1, a2, a3, a4, a5, a6, a7 => (let v8 : Int := (IntKind.wrap .i64 (a7 - (a2.size : Int))); (bif (decide (v8 < (0 : Int))) then (some (-1 : Int)) else ((laws_szColS n a3 v8).bind fun r9 => (bif (decide (r9 < (0 : Int))) then (some (-1 : Int)) else ((laws_szStringS n a4 r9).bind fun r10 => (bif (decide (r10 < (0 : Int))) then (some (-1 : Int)) else (let v11 : Int := (IntKind.wrap .i64 (r10 - (a5.size : Int))); (bif (decide (v11 < (0 : Int))) then (some (-1 : Int)) else (let v12 : Int := (IntKind.wrap .i64 (v11 - (a6.size : Int))); (bif (decide (v12 < (0 : Int))) then (some (-1 : Int)) else (some v12)))))))))))
/-- loop.example/g00462/laws.szStmt -/
def laws_szStmt : Nat → Int → ByteArray → (List (Int × (Int × ByteArray))) → (List (Int × (Int × ByteArray))) → Int → ByteArray → (List (ByteArray × (Int × (Bool × (Bool × (Int × (Int × ByteArray))))))) → (List ByteArray) → ByteArray → ByteArray → Int → Option Int
  | 0, _, _, _, _, _, _, _, _, _, _, _ => none
  | n + 1, a1, a2, a3, a4, a5, a6, a7, a8, a9, a10, a11 => (let v12 : Int := (IntKind.wrap .i64 (a11 - (a2.size : Int))); (bif (decide (v12 < (0 : Int))) then (some (-1 : Int)) else ((laws_szValS n a3 v12).bind fun r13 => (bif (decide (r13 < (0 : Int))) then (some (-1 : Int)) else ((laws_szRow n a4 r13).bind fun r14 => (bif (decide (r14 < (0 : Int))) then (some (-1 : Int)) else ((laws_szDdl n a5 a6 a7 a8 a9 a10 r14).bind fun r15 => (bif (decide (r15 < (0 : Int))) then (some (-1 : Int)) else (some r15)))))))))
/-- loop.example/g00462/laws.toVal -/
def laws_toVal : Nat → Int → Int → ByteArray → Option (Int × (Int × ByteArray))
  | 0, _, _, _ => none
  | n + 1, a1, a2, a3 => (some (a1, (a2, a3)))
def laws_toValS_L1 (n : Nat) : Nat → List (Int × (Int × ByteArray)) → Int → List (Int × (Int × ByteArray)) → Option (List (Int × (Int × ByteArray)))
  | 0, _, _, _ => none
  | j + 1, x3, x4, x5 => (bif (decide (x4 < (x3.length : Int))) then (bif (inR x4 x3.length) then (let v6 : (Int × (Int × ByteArray)) := (x3.getD x4.toNat ((0 : Int), ((0 : Int), (⟨#[]⟩ : ByteArray)))); ((laws_toVal n v6.1 v6.2.1 v6.2.2).bind fun r7 => (bif (inR x4 x5.length) then (let v8 : List (Int × (Int × ByteArray)) := (x5.set x4.toNat (r7.1, (r7.2.1, r7.2.2))); (laws_toValS_L1 n j x3 (IntKind.wrap .i64 (x4 + (1 : Int))) v8)) else none))) else none) else (some x5))
/-- loop.example/g00462/laws.toValS -/
def laws_toValS : Nat → (List (Int × (Int × ByteArray))) → Option (List (Int × (Int × ByteArray)))
  | 0, _ => none
  | n + 1, a1 => (bif (decide ((a1.length : Int) = (a1.length : Int) ∧ 0 ≤ (a1.length : Int)) && room (a1.length : Int).toNat 32) then (let v2 : List (Int × (Int × ByteArray)) := (List.replicate (a1.length : Int).toNat ((0 : Int), ((0 : Int), (⟨#[]⟩ : ByteArray)))); (laws_toValS_L1 n n a1 (0 : Int) v2)) else none)
/-- loop.example/g00462/laws.toRow -/
def laws_toRow : Nat → (List (Int × (Int × ByteArray))) → Option (List (Int × (Int × ByteArray)))
  | 0, _ => none
  | n + 1, a1 => ((laws_toValS n a1).bind fun r2 => (some r2))
/-- loop.example/g00462/laws.toCol -/
def laws_toCol : Nat → ByteArray → Int → Bool → Bool → Int → Int → ByteArray → Option (ByteArray × (Int × (Bool × (Bool × (Int × (Int × ByteArray))))))
  | 0, _, _, _, _, _, _, _ => none
  | n + 1, a1, a2, a3, a4, a5, a6, a7 => ((laws_toVal n a5 a6 a7).bind fun r8 => (some (a1, (a2, (a3, (a4, (r8.1, (r8.2.1, r8.2.2))))))))
def laws_toColS_L1 (n : Nat) : Nat → List (ByteArray × (Int × (Bool × (Bool × (Int × (Int × ByteArray)))))) → Int → List (ByteArray × (Int × (Bool × (Bool × (Int × (Int × ByteArray)))))) → Option (List (ByteArray × (Int × (Bool × (Bool × (Int × (Int × ByteArray)))))))
  | 0, _, _, _ => none
  | j + 1, x4, x5, x6 => (bif (decide (x5 < (x4.length : Int))) then (bif (inR x5 x4.length) then (let v7 : (ByteArray × (Int × (Bool × (Bool × (Int × (Int × ByteArray)))))) := (x4.getD x5.toNat ((⟨#[]⟩ : ByteArray), ((0 : Int), (false, (false, ((0 : Int), ((0 : Int), (⟨#[]⟩ : ByteArray)))))))); ((laws_toCol n v7.1 v7.2.1 v7.2.2.1 v7.2.2.2.1 v7.2.2.2.2.1 v7.2.2.2.2.2.1 v7.2.2.2.2.2.2).bind fun r8 => (bif (inR x5 x6.length) then (let v9 : List (ByteArray × (Int × (Bool × (Bool × (Int × (Int × ByteArray)))))) := (x6.set x5.toNat (r8.1, (r8.2.1, (r8.2.2.1, (r8.2.2.2.1, (r8.2.2.2.2.1, (r8.2.2.2.2.2.1, r8.2.2.2.2.2.2))))))); (laws_toColS_L1 n j x4 (IntKind.wrap .i64 (x5 + (1 : Int))) v9)) else none))) else none) else (some x6))
/-- loop.example/g00462/laws.toColS -/
def laws_toColS : Nat → (List (ByteArray × (Int × (Bool × (Bool × (Int × (Int × ByteArray))))))) → Option (List (ByteArray × (Int × (Bool × (Bool × (Int × (Int × ByteArray)))))))
  | 0, _ => none
  | n + 1, a1 => (let v2 : List (ByteArray × (Int × (Bool × (Bool × (Int × (Int × ByteArray)))))) := ([] : List (ByteArray × (Int × (Bool × (Bool × (Int × (Int × ByteArray))))))); (bif (decide ((a1.length : Int) = (a1.length : Int) ∧ 0 ≤ (a1.length : Int)) && room (a1.length : Int).toNat 64) then (let v3 : List (ByteArray × (Int × (Bool × (Bool × (Int × (Int × ByteArray)))))) := (List.replicate (a1.length : Int).toNat ((⟨#[]⟩ : ByteArray), ((0 : Int), (false, (false, ((0 : Int), ((0 : Int), (⟨#[]⟩ : ByteArray)))))))); (laws_toColS_L1 n n a1 (0 : Int) v3)) else none))
def laws_toStringS_L1 (n : Nat) : Nat → List ByteArray → Int → List ByteArray → Option (List ByteArray)
  | 0, _, _, _ => none
  | j + 1, x3, x4, x5 => (bif (decide (x4 < (x3.length : Int))) then (bif (inR x4 x3.length) then (bif (inR x4 x5.length) then (let v6 : List ByteArray := (x5.set x4.toNat (x3.getD x4.toNat (⟨#[]⟩ : ByteArray))); (laws_toStringS_L1 n j x3 (IntKind.wrap .i64 (x4 + (1 : Int))) v6)) else none) else none) else (some x5))
/-- loop.example/g00462/laws.toStringS -/
def laws_toStringS : Nat → (List ByteArray) → Option (List ByteArray)
  | 0, _ => none
  | n + 1, a1 => (bif (decide ((a1.length : Int) = (a1.length : Int) ∧ 0 ≤ (a1.length : Int)) && room (a1.length : Int).toNat 16) then (let v2 : List ByteArray := (List.replicate (a1.length : Int).toNat (⟨#[]⟩ : ByteArray)); (laws_toStringS_L1 n n a1 (0 : Int) v2)) else none)
/-- loop.example/g00462/laws.toDdl -/
def laws_toDdl : Nat → Int → ByteArray → (List (ByteArray × (Int × (Bool × (Bool × (Int × (Int × ByteArray))))))) → (List ByteArray) → ByteArray → ByteArray → Option (Int × (ByteArray × ((List (ByteArray × (Int × (Bool × (Bool × (Int × (Int × ByteArray))))))) × ((List ByteArray) × (ByteArray × ByteArray)))))
  | 0, _, _, _, _, _, _ => none
  | n + 1, a1, a2, a3, a4, a5, a6 => (let v7 : List (ByteArray × (Int × (Bool × (Bool × (Int × (Int × ByteArray)))))) := ([] : List (ByteArray × (Int × (Bool × (Bool × (Int × (Int × ByteArray))))))); (let v8 : List (ByteArray × (Int × (Bool × (Bool × (Int × (Int × ByteArray)))))) := ([] : List (ByteArray × (Int × (Bool × (Bool × (Int × (Int × ByteArray))))))); ((laws_toColS n a3).bind fun r9 => ((laws_toStringS n a4).bind fun r10 => (some (a1, (a2, (r9, (r10, (a5, a6))))))))))
/-- loop.example/g00462/laws.toStmt -/
def laws_toStmt : Nat → Int → ByteArray → (List (Int × (Int × ByteArray))) → (List (Int × (Int × ByteArray))) → Int → ByteArray → (List (ByteArray × (Int × (Bool × (Bool × (Int × (Int × ByteArray))))))) → (List ByteArray) → ByteArray → ByteArray → Option (Int × (ByteArray × ((List (Int × (Int × ByteArray))) × ((List (Int × (Int × ByteArray))) × (Int × (ByteArray × ((List (ByteArray × (Int × (Bool × (Bool × (Int × (Int × ByteArray))))))) × ((List ByteArray) × (ByteArray × ByteArray)))))))))
  | 0, _, _, _, _, _, _, _, _, _, _ => none
  | n + 1, a1, a2, a3, a4, a5, a6, a7, a8, a9, a10 => (let v11 : List (ByteArray × (Int × (Bool × (Bool × (Int × (Int × ByteArray)))))) := ([] : List (ByteArray × (Int × (Bool × (Bool × (Int × (Int × ByteArray))))))); (let v12 : List (ByteArray × (Int × (Bool × (Bool × (Int × (Int × ByteArray)))))) := ([] : List (ByteArray × (Int × (Bool × (Bool × (Int × (Int × ByteArray))))))); ((laws_toValS n a3).bind fun r13 => ((laws_toRow n a4).bind fun r14 => ((laws_toDdl n a5 a6 a7 a8 a9 a10).bind fun r15 => (some (a1, (a2, (r13, (r14, (r15.1, (r15.2.1, (r15.2.2.1, (r15.2.2.2.1, (r15.2.2.2.2.1, r15.2.2.2.2.2)))))))))))))))
def spec_WordOk_L1 (n : Nat) : Nat → ByteArray → Int → Option Bool
  | 0, _, _ => none
  | j + 1, x2, x3 => (bif (decide (x3 < (x2.size : Int))) then (bif (inR x3 x2.size) then (bif (decide ((bt x2 x3) < (97 : Int))) then (some false) else (bif (inR x3 x2.size) then (bif (decide ((122 : Int) < (bt x2 x3))) then (some false) else (spec_WordOk_L1 n j x2 (IntKind.wrap .i64 (x3 + (1 : Int))))) else none)) else none) else (bif (decide ((1 : Int) ≤ (x2.size : Int))) then (some (decide ((x2.size : Int) ≤ (8 : Int)))) else (some false)))
/-- loop.example/g00462/spec.WordOk -/
def spec_WordOk : Nat → ByteArray → Option Bool
  | 0, _ => none
  | n + 1, a1 => (spec_WordOk_L1 n n a1 (0 : Int))
/-- loop.example/g00462/spec.l01Num -/
def spec_l01Num : Nat → Int → Option Bool
  | 0, _ => none
  | n + 1, a1 => (bif (decide ((-1099511627775 : Int) ≤ a1)) then (some (decide (a1 ≤ (1099511627775 : Int)))) else (some false))
/-- loop.example/g00462/spec.ValOk -/
def spec_ValOk : Nat → Int → Int → ByteArray → Option Bool
  | 0, _, _, _ => none
  | n + 1, a1, a2, a3 => (bif (a1 == (0 : Int)) then (bif (a2 == (0 : Int)) then (let v4 : Bool := (a3.toList == (⟨#[]⟩ : ByteArray).toList); (some v4)) else (some false)) else (bif (a1 == (1 : Int)) then (bif (a2 == (0 : Int)) then (let v5 : Bool := (a3.toList == (⟨#[]⟩ : ByteArray).toList); (some v5)) else (bif (a2 == (1 : Int)) then (let v6 : Bool := (a3.toList == (⟨#[]⟩ : ByteArray).toList); (some v6)) else (some false))) else (bif (a1 == (2 : Int)) then ((spec_l01Num n a2).bind fun r7 => (bif r7 then (let v8 : Bool := (a3.toList == (⟨#[]⟩ : ByteArray).toList); (some v8)) else (some false))) else (bif (a1 == (3 : Int)) then (bif (a2 == (0 : Int)) then (some (decide ((a3.size : Int) ≤ (30 : Int)))) else (some false)) else (some false)))))
def spec_l04Vals_L1 (n : Nat) : Nat → List (Int × (Int × ByteArray)) → List (Int × (Int × ByteArray)) → Int → Int → Option Bool
  | 0, _, _, _, _ => none
  | j + 1, x2, x3, x4, x5 => (bif (decide (x5 < x4)) then (bif (inR x5 x3.length) then (let v6 : (Int × (Int × ByteArray)) := (x3.getD x5.toNat ((0 : Int), ((0 : Int), (⟨#[]⟩ : ByteArray)))); ((spec_ValOk n v6.1 v6.2.1 v6.2.2).bind fun r7 => (bif (!r7) then (some false) else (spec_l04Vals_L1 n j x2 x3 x4 (IntKind.wrap .i64 (x5 + (1 : Int))))))) else none) else (let v8 : Bool := (decide ((1 : Int) ≤ (x2.length : Int))); (bif v8 then (let v9 : Bool := (decide ((x2.length : Int) ≤ (8 : Int))); (some v9)) else (some false))))
/-- loop.example/g00462/spec.l04Vals -/
def spec_l04Vals : Nat → (List (Int × (Int × ByteArray))) → Option Bool
  | 0, _ => none
  | n + 1, a1 => (spec_l04Vals_L1 n n a1 a1 (a1.length : Int) (0 : Int))
/-- loop.example/g00462/spec.l04NoDdl -/
def spec_l04NoDdl : Nat → Int → ByteArray → (List (ByteArray × (Int × (Bool × (Bool × (Int × (Int × ByteArray))))))) → (List ByteArray) → ByteArray → ByteArray → Option Bool
  | 0, _, _, _, _, _, _ => none
  | n + 1, a1, a2, a3, a4, a5, a6 => (bif (a1 == (0 : Int)) then (let v7 : Bool := (a2.toList == (⟨#[]⟩ : ByteArray).toList); (bif v7 then (bif ((a3.length : Int) == (0 : Int)) then (bif ((a4.length : Int) == (0 : Int)) then (let v8 : Bool := (a5.toList == (⟨#[]⟩ : ByteArray).toList); (bif v8 then (let v9 : Bool := (a6.toList == (⟨#[]⟩ : ByteArray).toList); (some v9)) else (some false))) else (some false)) else (some false)) else (some false))) else (some false))
/-- loop.example/g00462/spec.ColOk -/
def spec_ColOk : Nat → ByteArray → Int → Bool → Bool → Int → Int → ByteArray → Option Bool
  | 0, _, _, _, _, _, _, _ => none
  | n + 1, a1, a2, a3, a4, a5, a6, a7 => (let v8 : Bool := ((a5 == (0 : Int)) && ((a6 == (0 : Int)) && ((a7.toList == (⟨#[]⟩ : ByteArray).toList) && true))); ((spec_WordOk n a1).bind fun r9 => (bif (!r9) then (some false) else (bif (decide (a2 < (1 : Int))) then (some false) else (bif (decide ((3 : Int) < a2)) then (some false) else (bif (!a4) then (some v8) else ((spec_ValOk n a5 a6 a7).bind fun r10 => (bif r10 then (bif v8 then (bif v8 then (some (!a3)) else (some true)) else (bif (a5 == a2) then (bif v8 then (some (!a3)) else (some true)) else (some false))) else (some false)))))))))
def spec_ColAt_L1 (n : Nat) : Nat → ByteArray → List (ByteArray × (Int × (Bool × (Bool × (Int × (Int × ByteArray)))))) → Int → Int → Option Int
  | 0, _, _, _, _ => none
  | j + 1, x5, x6, x7, x8 => (bif (decide (x8 < x7)) then (bif (inR x8 x6.length) then (let v9 : (ByteArray × (Int × (Bool × (Bool × (Int × (Int × ByteArray)))))) := (x6.getD x8.toNat ((⟨#[]⟩ : ByteArray), ((0 : Int), (false, (false, ((0 : Int), ((0 : Int), (⟨#[]⟩ : ByteArray)))))))); (bif (v9.1.toList == x5.toList) then (some x8) else (spec_ColAt_L1 n j x5 x6 x7 (IntKind.wrap .i64 (x8 + (1 : Int)))))) else none) else (some (-1 : Int)))
/-- loop.example/g00462/spec.ColAt -/
def spec_ColAt : Nat → ByteArray → (List (ByteArray × (Int × (Bool × (Bool × (Int × (Int × ByteArray))))))) → (List ByteArray) → ByteArray → Option Int
  | 0, _, _, _, _ => none
  | n + 1, a1, a2, a3, a4 => (spec_ColAt_L1 n n a4 a2 (a2.length : Int) (0 : Int))
def spec_TableOk_L2 (n : Nat) : Nat → Int → List ByteArray → Int → Int → ByteArray → List (ByteArray × (Int × (Bool × (Bool × (Int × (Int × ByteArray)))))) → List ByteArray → Option Bool
  | 0, _, _, _, _, _, _, _ => none
  | j + 1, x17, x18, x19, x20, x21, x22, x23 => (bif (decide (x20 < x19)) then (bif (inR x20 x18.length) then (let v24 : ByteArray := (x18.getD x20.toNat (⟨#[]⟩ : ByteArray)); ((spec_ColAt n x21 x22 x23 v24).bind fun r25 => (bif (decide (r25 ≤ x17)) then (some false) else (bif (inR r25 x22.length) then (let v26 : (ByteArray × (Int × (Bool × (Bool × (Int × (Int × ByteArray)))))) := (x22.getD r25.toNat ((⟨#[]⟩ : ByteArray), ((0 : Int), (false, (false, ((0 : Int), ((0 : Int), (⟨#[]⟩ : ByteArray)))))))); (bif (!v26.2.2.1) then (some false) else (spec_TableOk_L2 n j r25 x18 x19 (IntKind.wrap .i64 (x20 + (1 : Int))) x21 x22 x23))) else none)))) else none) else (some true))
def spec_TableOk_L1 (n : Nat) : Nat → List (ByteArray × (Int × (Bool × (Bool × (Int × (Int × ByteArray)))))) → Int → Int → ByteArray → List (ByteArray × (Int × (Bool × (Bool × (Int × (Int × ByteArray)))))) → List ByteArray → Option Bool
  | 0, _, _, _, _, _, _ => none
  | j + 1, x8, x9, x10, x11, x12, x13 => (bif (decide (x10 < x9)) then (bif (inR x10 x8.length) then (let v14 : (ByteArray × (Int × (Bool × (Bool × (Int × (Int × ByteArray)))))) := (x8.getD x10.toNat ((⟨#[]⟩ : ByteArray), ((0 : Int), (false, (false, ((0 : Int), ((0 : Int), (⟨#[]⟩ : ByteArray)))))))); ((spec_ColOk n v14.1 v14.2.1 v14.2.2.1 v14.2.2.2.1 v14.2.2.2.2.1 v14.2.2.2.2.2.1 v14.2.2.2.2.2.2).bind fun r15 => (bif (!r15) then (some false) else ((spec_ColAt n x11 x12 x13 v14.1).bind fun r16 => (bif (r16 != x10) then (some false) else (spec_TableOk_L1 n j x8 x9 (IntKind.wrap .i64 (x10 + (1 : Int))) x11 x12 x13)))))) else none) else (spec_TableOk_L2 n n (-1 : Int) x13 (x13.length : Int) (0 : Int) x11 x12 x13))
/-- loop.example/g00462/spec.TableOk -/
def spec_TableOk : Nat → ByteArray → (List (ByteArray × (Int × (Bool × (Bool × (Int × (Int × ByteArray))))))) → (List ByteArray) → Option Bool
  | 0, _, _, _ => none
  | n + 1, a1, a2, a3 => ((spec_WordOk n a1).bind fun r4 => (bif (!r4) then (some false) else (let v5 : Bool := (decide ((a2.length : Int) < (1 : Int))); (bif v5 then (some false) else (let v6 : Bool := (decide ((8 : Int) < (a2.length : Int))); (bif v6 then (some false) else (let v7 : Bool := (decide ((a3.length : Int) < (1 : Int))); (bif v7 then (some false) else (spec_TableOk_L1 n n a2 (a2.length : Int) (0 : Int) a1 a2 a3)))))))))
/-- loop.example/g00462/spec.DdlOk -/
def spec_DdlOk : Nat → Int → ByteArray → (List (ByteArray × (Int × (Bool × (Bool × (Int × (Int × ByteArray))))))) → (List ByteArray) → ByteArray → ByteArray → Option Bool
  | 0, _, _, _, _, _, _ => none
  | n + 1, a1, a2, a3, a4, a5, a6 => ((spec_WordOk n a2).bind fun r7 => (bif (!r7) then (some false) else (bif ((a3.length : Int) == (0 : Int)) then (bif (a1 == (1 : Int)) then (let v8 : Bool := (a5.toList == (⟨#[]⟩ : ByteArray).toList); (bif v8 then (let v9 : Bool := (a6.toList == (⟨#[]⟩ : ByteArray).toList); (bif v9 then ((spec_TableOk n a2 a3 a4).bind fun r10 => (some r10)) else (some false))) else (some false))) else (bif (a1 == (2 : Int)) then (bif ((a4.length : Int) == (0 : Int)) then (let v11 : Bool := (a5.toList == (⟨#[]⟩ : ByteArray).toList); (bif v11 then (let v12 : Bool := (a6.toList == (⟨#[]⟩ : ByteArray).toList); (some v12)) else (some false))) else (some false)) else (bif (a1 == (3 : Int)) then (bif ((a3.length : Int) == (1 : Int)) then (bif (inR (0 : Int) a3.length) then (let v13 : (ByteArray × (Int × (Bool × (Bool × (Int × (Int × ByteArray)))))) := (a3.getD (0 : Int).toNat ((⟨#[]⟩ : ByteArray), ((0 : Int), (false, (false, ((0 : Int), ((0 : Int), (⟨#[]⟩ : ByteArray)))))))); ((spec_ColOk n v13.1 v13.2.1 v13.2.2.1 v13.2.2.2.1 v13.2.2.2.2.1 v13.2.2.2.2.2.1 v13.2.2.2.2.2.2).bind fun r14 => (bif r14 then (bif (inR (0 : Int) a3.length) then (let v15 : (ByteArray × (Int × (Bool × (Bool × (Int × (Int × ByteArray)))))) := (a3.getD (0 : Int).toNat ((⟨#[]⟩ : ByteArray), ((0 : Int), (false, (false, ((0 : Int), ((0 : Int), (⟨#[]⟩ : ByteArray)))))))); (bif v15.2.2.2.1 then (bif ((a4.length : Int) == (0 : Int)) then (let v16 : Bool := (a5.toList == (⟨#[]⟩ : ByteArray).toList); (bif v16 then (let v17 : Bool := (a6.toList == (⟨#[]⟩ : ByteArray).toList); (some v17)) else (some false))) else (some false)) else (bif (inR (0 : Int) a3.length) then (let v18 : (ByteArray × (Int × (Bool × (Bool × (Int × (Int × ByteArray)))))) := (a3.getD (0 : Int).toNat ((⟨#[]⟩ : ByteArray), ((0 : Int), (false, (false, ((0 : Int), ((0 : Int), (⟨#[]⟩ : ByteArray)))))))); (bif (!v18.2.2.1) then (bif ((a4.length : Int) == (0 : Int)) then (let v19 : Bool := (a5.toList == (⟨#[]⟩ : ByteArray).toList); (bif v19 then (let v20 : Bool := (a6.toList == (⟨#[]⟩ : ByteArray).toList); (some v20)) else (some false))) else (some false)) else (some false))) else none))) else none) else (some false)))) else none) else (some false)) else (bif (a1 == (4 : Int)) then (bif ((a4.length : Int) == (0 : Int)) then ((spec_WordOk n a5).bind fun r21 => (bif r21 then (let v22 : Bool := (a6.toList == (⟨#[]⟩ : ByteArray).toList); (some v22)) else (some false))) else (some false)) else (bif (a1 == (5 : Int)) then (bif ((a4.length : Int) == (0 : Int)) then ((spec_WordOk n a5).bind fun r23 => (bif r23 then ((spec_WordOk n a6).bind fun r24 => (some r24)) else (some false))) else (some false)) else (some false)))))) else (bif (a1 == (1 : Int)) then (let v25 : Bool := (a5.toList == (⟨#[]⟩ : ByteArray).toList); (bif v25 then (let v26 : Bool := (a6.toList == (⟨#[]⟩ : ByteArray).toList); (bif v26 then ((spec_TableOk n a2 a3 a4).bind fun r27 => (some r27)) else (some false))) else (some false))) else (bif (a1 == (2 : Int)) then (some false) else (bif (a1 == (3 : Int)) then (bif ((a3.length : Int) == (1 : Int)) then (bif (inR (0 : Int) a3.length) then (let v28 : (ByteArray × (Int × (Bool × (Bool × (Int × (Int × ByteArray)))))) := (a3.getD (0 : Int).toNat ((⟨#[]⟩ : ByteArray), ((0 : Int), (false, (false, ((0 : Int), ((0 : Int), (⟨#[]⟩ : ByteArray)))))))); ((spec_ColOk n v28.1 v28.2.1 v28.2.2.1 v28.2.2.2.1 v28.2.2.2.2.1 v28.2.2.2.2.2.1 v28.2.2.2.2.2.2).bind fun r29 => (bif r29 then (bif (inR (0 : Int) a3.length) then (let v30 : (ByteArray × (Int × (Bool × (Bool × (Int × (Int × ByteArray)))))) := (a3.getD (0 : Int).toNat ((⟨#[]⟩ : ByteArray), ((0 : Int), (false, (false, ((0 : Int), ((0 : Int), (⟨#[]⟩ : ByteArray)))))))); (bif v30.2.2.2.1 then (bif ((a4.length : Int) == (0 : Int)) then (let v31 : Bool := (a5.toList == (⟨#[]⟩ : ByteArray).toList); (bif v31 then (let v32 : Bool := (a6.toList == (⟨#[]⟩ : ByteArray).toList); (some v32)) else (some false))) else (some false)) else (bif (inR (0 : Int) a3.length) then (let v33 : (ByteArray × (Int × (Bool × (Bool × (Int × (Int × ByteArray)))))) := (a3.getD (0 : Int).toNat ((⟨#[]⟩ : ByteArray), ((0 : Int), (false, (false, ((0 : Int), ((0 : Int), (⟨#[]⟩ : ByteArray)))))))); (bif (!v33.2.2.1) then (bif ((a4.length : Int) == (0 : Int)) then (let v34 : Bool := (a5.toList == (⟨#[]⟩ : ByteArray).toList); (bif v34 then (let v35 : Bool := (a6.toList == (⟨#[]⟩ : ByteArray).toList); (some v35)) else (some false))) else (some false)) else (some false))) else none))) else none) else (some false)))) else none) else (some false)) else (bif (a1 == (4 : Int)) then (some false) else (bif (a1 == (5 : Int)) then (some false) else (some false)))))))))
/-- loop.example/g00462/spec.StmtOk -/
def spec_StmtOk : Nat → Int → ByteArray → (List (Int × (Int × ByteArray))) → (List (Int × (Int × ByteArray))) → Int → ByteArray → (List (ByteArray × (Int × (Bool × (Bool × (Int × (Int × ByteArray))))))) → (List ByteArray) → ByteArray → ByteArray → Option Bool
  | 0, _, _, _, _, _, _, _, _, _, _ => none
  | n + 1, a1, a2, a3, a4, a5, a6, a7, a8, a9, a10 => ((spec_WordOk n a2).bind fun r11 => (bif (!r11) then (some false) else (bif (a1 == (1 : Int)) then (bif ((a3.length : Int) == (0 : Int)) then ((spec_l04Vals n a4).bind fun r12 => (bif r12 then ((spec_l04NoDdl n a5 a6 a7 a8 a9 a10).bind fun r13 => (some r13)) else (some false))) else (some false)) else (bif (a1 == (2 : Int)) then ((spec_l04Vals n a3).bind fun r14 => (bif r14 then ((spec_l04Vals n a4).bind fun r15 => (bif r15 then ((spec_l04NoDdl n a5 a6 a7 a8 a9 a10).bind fun r16 => (some r16)) else (some false))) else (some false))) else (bif (a1 == (3 : Int)) then ((spec_l04Vals n a3).bind fun r17 => (bif r17 then (bif ((a4.length : Int) == (0 : Int)) then ((spec_l04NoDdl n a5 a6 a7 a8 a9 a10).bind fun r18 => (some r18)) else (some false)) else (some false))) else (bif (a1 == (4 : Int)) then (bif ((a3.length : Int) == (0 : Int)) then (bif ((a4.length : Int) == (0 : Int)) then ((spec_l04NoDdl n a5 a6 a7 a8 a9 a10).bind fun r19 => (some r19)) else (some false)) else (some false)) else (bif (a1 == (5 : Int)) then (bif ((a3.length : Int) == (0 : Int)) then (bif ((a4.length : Int) == (0 : Int)) then ((spec_DdlOk n a5 a6 a7 a8 a9 a10).bind fun r20 => (bif r20 then (some (a6.toList == a2.toList)) else (some false))) else (some false)) else (some false)) else (some false))))))))
/-- loop.example/g00462/spec.WordBytes -/
def spec_WordBytes : Nat → ByteArray → Option ((List Int) × (Bool × Unit))
  | 0, _ => none
  | n + 1, a1 => (let v2 : Bool := (!(a1.toList == (⟨#[]⟩ : ByteArray).toList)); (bif v2 then ((spec_WordOk n a1).bind fun r3 => (bif (!r3) then (some (([] : List Int), (false, ()))) else (let v4 : List Int := ([(IntKind.wrap .u8 (a1.size : Int))] : List Int); (let v5 : List Int := (a1.data.toList.map fun b => (b.toNat : Int)); (bif (room (v4.length + v5.length) 1) then (some ((v4 ++ v5), (true, ()))) else none))))) else (let v6 : List Int := ([(IntKind.wrap .u8 (a1.size : Int))] : List Int); (let v7 : List Int := (a1.data.toList.map fun b => (b.toNat : Int)); (bif (room (v6.length + v7.length) 1) then (some ((v6 ++ v7), (true, ()))) else none)))))
/-- loop.example/g00462/spec.l06Word -/
def spec_l06Word_o : Nat → (List Int) → ByteArray → Option (List Int)
  | 0, _, _ => none
  | n + 1, a1, a2 => ((spec_WordBytes n a2).bind fun r3 => (bif (room (a1.length + r3.1.length) 1) then (some (a1 ++ r3.1)) else none))
def spec_l06Pow_L1 (n : Nat) : Nat → Int → Int → Int → Option Int
  | 0, _, _, _ => none
  | j + 1, x2, x3, x4 => (bif (decide (x4 < x2)) then (spec_l06Pow_L1 n j x2 (IntKind.wrap .i64 (x3 * (256 : Int))) (IntKind.wrap .i64 (x4 + (1 : Int)))) else (some x3))
/-- loop.example/g00462/spec.l06Pow -/
def spec_l06Pow : Nat → Int → Option Int
  | 0, _ => none
  | n + 1, a1 => (spec_l06Pow_L1 n n a1 (1 : Int) (0 : Int))
def spec_PutNum_L1 (n : Nat) : Nat → Int → Int → List Int → Option ((List Int) × (Bool × Unit))
  | 0, _, _, _ => none
  | j + 1, x5, x6, x7 => (bif (decide ((0 : Int) ≤ x6)) then ((spec_l06Pow n x6).bind fun r8 => (bif (!decide (r8 = 0)) then (bif (!decide ((256 : Int) = 0)) then (let v9 : Int := (Int.tmod (IntKind.wrap .i64 (Int.tdiv x5 r8)) (256 : Int)); (bif (room (x7.length + ([(IntKind.wrap .u8 v9)] : List Int).length) 1) then (let v10 : List Int := (x7 ++ ([(IntKind.wrap .u8 v9)] : List Int)); (spec_PutNum_L1 n j x5 (IntKind.wrap .i64 (x6 - (1 : Int))) v10)) else none)) else none) else none)) else (some (x7, (true, ()))))
/-- loop.example/g00462/spec.PutNum -/
def spec_PutNum : Nat → (List Int) → Int → Int → Option ((List Int) × (Bool × Unit))
  | 0, _, _, _ => none
  | n + 1, a1, a2, a3 => (bif (decide (a3 < (1 : Int))) then (some (([] : List Int), (false, ()))) else (bif (decide ((6 : Int) < a3)) then (some (([] : List Int), (false, ()))) else (bif (decide (a2 < (0 : Int))) then (some (([] : List Int), (false, ()))) else ((spec_l06Pow n a3).bind fun r4 => (bif (decide (r4 ≤ a2)) then (some (([] : List Int), (false, ()))) else (bif (room (([] : List Int).length + a1.length) 1) then (spec_PutNum_L1 n n a2 (IntKind.wrap .i64 (a3 - (1 : Int))) (([] : List Int) ++ a1)) else none))))))
/-- loop.example/g00462/spec.ValBytes -/
def spec_ValBytes : Nat → Int → Int → ByteArray → Option ((List Int) × (Bool × Unit))
  | 0, _, _, _ => none
  | n + 1, a1, a2, a3 => ((spec_ValOk n a1 a2 a3).bind fun r4 => (bif (!r4) then (some (([] : List Int), (false, ()))) else (bif (a1 == (1 : Int)) then (bif (room (([(IntKind.wrap .u8 a1)] : List Int).length + ([(IntKind.wrap .u8 a2)] : List Int).length) 1) then (let v5 : List Int := (([(IntKind.wrap .u8 a1)] : List Int) ++ ([(IntKind.wrap .u8 a2)] : List Int)); (some (v5, (true, ())))) else none) else (bif (a1 == (2 : Int)) then (bif (decide (a2 < (0 : Int))) then (bif (room (([(IntKind.wrap .u8 a1)] : List Int).length + ([(1 : Int)] : List Int).length) 1) then (let v6 : List Int := (([(IntKind.wrap .u8 a1)] : List Int) ++ ([(1 : Int)] : List Int)); ((spec_PutNum n v6 (IntKind.wrap .i64 (0 - a2)) (6 : Int)).bind fun r7 => (some (r7.1, (r7.2.1, ()))))) else none) else (bif (room (([(IntKind.wrap .u8 a1)] : List Int).length + ([(0 : Int)] : List Int).length) 1) then (let v8 : List Int := (([(IntKind.wrap .u8 a1)] : List Int) ++ ([(0 : Int)] : List Int)); ((spec_PutNum n v8 a2 (6 : Int)).bind fun r9 => (some (r9.1, (r9.2.1, ()))))) else none)) else (bif (a1 == (3 : Int)) then (let v10 : List Int := ([(IntKind.wrap .u8 (a3.size : Int))] : List Int); (bif (room (([(IntKind.wrap .u8 a1)] : List Int).length + v10.length) 1) then (let v11 : List Int := (([(IntKind.wrap .u8 a1)] : List Int) ++ v10); (let v12 : List Int := (a3.data.toList.map fun b => (b.toNat : Int)); (bif (room (v11.length + v12.length) 1) then (some ((v11 ++ v12), (true, ()))) else none))) else none)) else (some (([(IntKind.wrap .u8 a1)] : List Int), (true, ()))))))))
def spec_RowBytes_L1 (n : Nat) : Nat → List (Int × (Int × ByteArray)) → Int → Int → List Int → Option ((List Int) × (Bool × Unit))
  | 0, _, _, _, _ => none
  | j + 1, x4, x5, x6, x7 => (bif (decide (x6 < x5)) then (bif (inR x6 x4.length) then (let v8 : (Int × (Int × ByteArray)) := (x4.getD x6.toNat ((0 : Int), ((0 : Int), (⟨#[]⟩ : ByteArray)))); ((spec_ValBytes n v8.1 v8.2.1 v8.2.2).bind fun r9 => (bif (!r9.2.1) then (some (([] : List Int), (false, ()))) else (bif (room (x7.length + r9.1.length) 1) then (spec_RowBytes_L1 n j x4 x5 (IntKind.wrap .i64 (x6 + (1 : Int))) (x7 ++ r9.1)) else none)))) else none) else (some (x7, (true, ()))))
/-- loop.example/g00462/spec.RowBytes -/
def spec_RowBytes : Nat → (List (Int × (Int × ByteArray))) → Option ((List Int) × (Bool × Unit))
  | 0, _ => none
  | n + 1, a1 => (let v2 : Bool := (decide ((8 : Int) < (a1.length : Int))); (bif v2 then (some (([] : List Int), (false, ()))) else (let v3 : List Int := ([(IntKind.wrap .u8 (a1.length : Int))] : List Int); (spec_RowBytes_L1 n n a1 (a1.length : Int) (0 : Int) v3))))
/-- loop.example/g00462/spec.l06Bool -/
def spec_l06Bool : Nat → Bool → Option Int
  | 0, _ => none
  | n + 1, a1 => (bif a1 then (some (1 : Int)) else (some (0 : Int)))
def spec_l06Ddl_o_L2 (n : Nat) : Nat → List ByteArray → Int → Int → List Int → Int → ByteArray → List (ByteArray × (Int × (Bool × (Bool × (Int × (Int × ByteArray)))))) → List ByteArray → ByteArray → ByteArray → Option (List Int)
  | 0, _, _, _, _, _, _, _, _, _, _ => none
  | j + 1, x26, x27, x28, x29, x30, x31, x32, x33, x34, x35 => (bif (decide (x28 < x27)) then (bif (inR x28 x26.length) then (let v36 : ByteArray := (x26.getD x28.toNat (⟨#[]⟩ : ByteArray)); ((spec_l06Word_o n x29 v36).bind fun r37 => (spec_l06Ddl_o_L2 n j x26 x27 (IntKind.wrap .i64 (x28 + (1 : Int))) r37 x30 x31 x32 x33 x34 x35))) else none) else ((spec_l06Word_o n x29 x34).bind fun r38 => ((spec_l06Word_o n r38 x35).bind fun r39 => (some r39))))
def spec_l06Ddl_o_L1 (n : Nat) : Nat → List (ByteArray × (Int × (Bool × (Bool × (Int × (Int × ByteArray)))))) → Int → Int → List Int → Int → ByteArray → List (ByteArray × (Int × (Bool × (Bool × (Int × (Int × ByteArray)))))) → List ByteArray → ByteArray → ByteArray → Option (List Int)
  | 0, _, _, _, _, _, _, _, _, _, _ => none
  | j + 1, x9, x10, x11, x12, x13, x14, x15, x16, x17, x18 => (bif (decide (x11 < x10)) then (bif (inR x11 x9.length) then (let v19 : (ByteArray × (Int × (Bool × (Bool × (Int × (Int × ByteArray)))))) := (x9.getD x11.toNat ((⟨#[]⟩ : ByteArray), ((0 : Int), (false, (false, ((0 : Int), ((0 : Int), (⟨#[]⟩ : ByteArray)))))))); ((spec_l06Word_o n x12 v19.1).bind fun r20 => ((spec_l06Bool n v19.2.2.1).bind fun r21 => ((spec_l06Bool n v19.2.2.2.1).bind fun r22 => (let v23 : List Int := ([(IntKind.wrap .u8 v19.2.1), r21, r22] : List Int); (bif (room (r20.length + v23.length) 1) then ((spec_ValBytes n v19.2.2.2.2.1 v19.2.2.2.2.2.1 v19.2.2.2.2.2.2).bind fun r24 => (bif (room ((r20 ++ v23).length + r24.1.length) 1) then (spec_l06Ddl_o_L1 n j x9 x10 (IntKind.wrap .i64 (x11 + (1 : Int))) ((r20 ++ v23) ++ r24.1) x13 x14 x15 x16 x17 x18) else none)) else none)))))) else none) else (let v25 : List Int := ([(IntKind.wrap .u8 (x16.length : Int))] : List Int); (bif (room (x12.length + v25.length) 1) then (spec_l06Ddl_o_L2 n n x16 (x16.length : Int) (0 : Int) (x12 ++ v25) x13 x14 x15 x16 x17 x18) else none)))
/-- loop.example/g00462/spec.l06Ddl -/
def spec_l06Ddl_o : Nat → (List Int) → Int → ByteArray → (List (ByteArray × (Int × (Bool × (Bool × (Int × (Int × ByteArray))))))) → (List ByteArray) → ByteArray → ByteArray → Option (List Int)
  | 0, _, _, _, _, _, _, _ => none
  | n + 1, a1, a2, a3, a4, a5, a6, a7 => (let v8 : List Int := ([(IntKind.wrap .u8 a2), (IntKind.wrap .u8 (a4.length : Int))] : List Int); (bif (room (a1.length + v8.length) 1) then (spec_l06Ddl_o_L1 n n a4 (a4.length : Int) (0 : Int) (a1 ++ v8) a2 a3 a4 a5 a6 a7) else none))
/-- loop.example/g00462/spec.StmtBytes -/
def spec_StmtBytes : Nat → Int → ByteArray → (List (Int × (Int × ByteArray))) → (List (Int × (Int × ByteArray))) → Int → ByteArray → (List (ByteArray × (Int × (Bool × (Bool × (Int × (Int × ByteArray))))))) → (List ByteArray) → ByteArray → ByteArray → Option ((List Int) × (Bool × Unit))
  | 0, _, _, _, _, _, _, _, _, _, _ => none
  | n + 1, a1, a2, a3, a4, a5, a6, a7, a8, a9, a10 => ((spec_StmtOk n a1 a2 a3 a4 a5 a6 a7 a8 a9 a10).bind fun r11 => (bif (!r11) then (some (([] : List Int), (false, ()))) else (let v12 : List Int := ([(83 : Int), (IntKind.wrap .u8 a1)] : List Int); ((spec_l06Word_o n v12 a2).bind fun r13 => ((spec_RowBytes n a3).bind fun r14 => ((spec_RowBytes n a4).bind fun r15 => (bif (room (r13.length + r14.1.length) 1) then (bif (room ((r13 ++ r14.1).length + r15.1.length) 1) then (bif (a1 == (5 : Int)) then ((spec_l06Ddl_o n ((r13 ++ r14.1) ++ r15.1) a5 a6 a7 a8 a9 a10).bind fun r16 => (some (r16, (true, ())))) else (some (((r13 ++ r14.1) ++ r15.1), (true, ())))) else none) else none)))))))
/-- loop.example/g00462/impl.within -/
def impl_within : Nat → Int → Int → Int → Option Bool
  | 0, _, _, _ => none
  | n + 1, a1, a2, a3 => (bif (decide (a2 ≤ a1)) then (some (decide (a1 ≤ a3))) else (some false))
def impl_WordOk_L1 (n : Nat) : Nat → ByteArray → Int → Option Bool
  | 0, _, _ => none
  | j + 1, x2, x3 => (bif (decide (x3 < (x2.size : Int))) then (bif (inR x3 x2.size) then (bif (decide ((bt x2 x3) < (97 : Int))) then (some false) else (bif (inR x3 x2.size) then (bif (decide ((122 : Int) < (bt x2 x3))) then (some false) else (impl_WordOk_L1 n j x2 (IntKind.wrap .i64 (x3 + (1 : Int))))) else none)) else none) else ((impl_within n (x2.size : Int) (1 : Int) (8 : Int)).bind fun r4 => (some r4)))
/-- loop.example/g00462/impl.WordOk -/
def impl_WordOk : Nat → ByteArray → Option Bool
  | 0, _ => none
  | n + 1, a1 => (impl_WordOk_L1 n n a1 (0 : Int))
/-- loop.example/g00462/impl.copyTexts -/
def impl_copyTexts : Nat → (List ByteArray) → Option (List ByteArray)
  | 0, _ => none
  | n + 1, a1 => (bif (room a1.length 16) then (some a1) else none)
/-- loop.example/g00462/impl.copyTable -/
def impl_copyTable : Nat → ByteArray → (List (ByteArray × (Int × (Bool × (Bool × (Int × (Int × ByteArray))))))) → (List ByteArray) → Option (ByteArray × ((List (ByteArray × (Int × (Bool × (Bool × (Int × (Int × ByteArray))))))) × (List ByteArray)))
  | 0, _, _, _ => none
  | n + 1, a1, a2, a3 => (let v4 : List (ByteArray × (Int × (Bool × (Bool × (Int × (Int × ByteArray)))))) := ([] : List (ByteArray × (Int × (Bool × (Bool × (Int × (Int × ByteArray))))))); (bif (room a2.length 64) then ((impl_copyTexts n a3).bind fun r5 => (some (a1, (a2, r5)))) else none))
/-- (loop.example/g00462/impl.Ddl).made -/
def impl_Ddl_made : Nat → Int → ByteArray → (List (ByteArray × (Int × (Bool × (Bool × (Int × (Int × ByteArray))))))) → (List ByteArray) → ByteArray → ByteArray → Option (ByteArray × ((List (ByteArray × (Int × (Bool × (Bool × (Int × (Int × ByteArray))))))) × (List ByteArray)))
  | 0, _, _, _, _, _, _ => none
  | n + 1, a1, a2, a3, a4, a5, a6 => (let v7 : List (ByteArray × (Int × (Bool × (Bool × (Int × (Int × ByteArray)))))) := ([] : List (ByteArray × (Int × (Bool × (Bool × (Int × (Int × ByteArray))))))); ((impl_copyTable n a2 a3 a4).bind fun r8 => (some (r8.1, (r8.2.1, r8.2.2)))))
/-- loop.example/g00462/impl.ValOk -/
def impl_ValOk : Nat → Int → Int → ByteArray → Option Bool
  | 0, _, _, _ => none
  | n + 1, a1, a2, a3 => (bif (a1 == (0 : Int)) then (let v4 : Bool := ((a1 == (0 : Int)) && ((a2 == (0 : Int)) && ((a3.toList == (⟨#[]⟩ : ByteArray).toList) && true))); (some v4)) else (bif (a1 == (1 : Int)) then ((impl_within n a2 (0 : Int) (1 : Int)).bind fun r5 => (bif r5 then (let v6 : Bool := (a3.toList == (⟨#[]⟩ : ByteArray).toList); (some v6)) else (some false))) else (bif (a1 == (2 : Int)) then ((impl_within n a2 (-1099511627775 : Int) (1099511627775 : Int)).bind fun r7 => (bif r7 then (let v8 : Bool := (a3.toList == (⟨#[]⟩ : ByteArray).toList); (some v8)) else (some false))) else (bif (a1 == (3 : Int)) then (bif (a2 == (0 : Int)) then (some (decide ((a3.size : Int) ≤ (30 : Int)))) else (some false)) else (some false)))))
/-- loop.example/g00462/impl.ColOk -/
def impl_ColOk : Nat → ByteArray → Int → Bool → Bool → Int → Int → ByteArray → Option Bool
  | 0, _, _, _, _, _, _, _ => none
  | n + 1, a1, a2, a3, a4, a5, a6, a7 => ((impl_WordOk n a1).bind fun r8 => (bif (!r8) then (some false) else ((impl_within n a2 (1 : Int) (3 : Int)).bind fun r9 => (bif (!r9) then (some false) else ((impl_ValOk n a5 a6 a7).bind fun r10 => (bif (!r10) then (some false) else (bif (!a4) then (let v11 : Bool := ((a5 == (0 : Int)) && ((a6 == (0 : Int)) && ((a7.toList == (⟨#[]⟩ : ByteArray).toList) && true))); (some v11)) else (bif (a5 == a2) then (some true) else (bif (a5 == (0 : Int)) then (some (!a3)) else (some false))))))))))
/-- loop.example/g00462/impl.ColAt$1 -/
def impl_ColAt_1 : Nat → ByteArray → Int → Bool → Bool → Int → Int → ByteArray → ByteArray → Option Bool
  | 0, _, _, _, _, _, _, _, _ => none
  | n + 1, a1, a2, a3, a4, a5, a6, a7, a8 => (some (a1.toList == a8.toList))
def slices_IndexFunc_impl_Col_impl_Col__impl_ColAt_1_L1 (n : Nat) : Nat → List (ByteArray × (Int × (Bool × (Bool × (Int × (Int × ByteArray)))))) → ByteArray → Int → Int → Option Int
  | 0, _, _, _, _ => none
  | j + 1, x3, x4, x5, x6 => (bif (decide (x6 < x5)) then (bif (inR x6 x3.length) then (let v7 : (ByteArray × (Int × (Bool × (Bool × (Int × (Int × ByteArray)))))) := (x3.getD x6.toNat ((⟨#[]⟩ : ByteArray), ((0 : Int), (false, (false, ((0 : Int), ((0 : Int), (⟨#[]⟩ : ByteArray)))))))); ((impl_ColAt_1 n v7.1 v7.2.1 v7.2.2.1 v7.2.2.2.1 v7.2.2.2.2.1 v7.2.2.2.2.2.1 v7.2.2.2.2.2.2 x4).bind fun r8 => (bif r8 then (some x6) else (slices_IndexFunc_impl_Col_impl_Col__impl_ColAt_1_L1 n j x3 x4 x5 (IntKind.wrap .i64 (x6 + (1 : Int))))))) else none) else (some (-1 : Int)))
/-- slices.IndexFunc[[]loop.example/g00462/impl.Col,loop.example/g00462/impl.Col] -/
def slices_IndexFunc_impl_Col_impl_Col__impl_ColAt_1 : Nat → (List (ByteArray × (Int × (Bool × (Bool × (Int × (Int × ByteArray))))))) → ByteArray → Option Int
  | 0, _, _ => none
  | n + 1, a1, a2 => (slices_IndexFunc_impl_Col_impl_Col__impl_ColAt_1_L1 n n a1 a2 (a1.length : Int) (0 : Int))
/-- loop.example/g00462/impl.ColAt -/
def impl_ColAt : Nat → ByteArray → (List (ByteArray × (Int × (Bool × (Bool × (Int × (Int × ByteArray))))))) → (List ByteArray) → ByteArray → Option Int
  | 0, _, _, _, _ => none
  | n + 1, a1, a2, a3, a4 => ((slices_IndexFunc_impl_Col_impl_Col__impl_ColAt_1 n a2 a4).bind fun r5 => (some r5))
def impl_TableOk_L2 (n : Nat) : Nat → Int → List ByteArray → Int → Int → ByteArray → List (ByteArray × (Int × (Bool × (Bool × (Int × (Int × ByteArray)))))) → List ByteArray → Option Bool
  | 0, _, _, _, _, _, _, _ => none
  | j + 1, x13, x14, x15, x16, x17, x18, x19 => (bif (decide (x16 < x15)) then (bif (inR x16 x14.length) then (let v20 : ByteArray := (x14.getD x16.toNat (⟨#[]⟩ : ByteArray)); ((impl_ColAt n x17 x18 x19 v20).bind fun r21 => (bif (decide (r21 ≤ x13)) then (some false) else (bif (inR r21 x18.length) then (let v22 : (ByteArray × (Int × (Bool × (Bool × (Int × (Int × ByteArray)))))) := (x18.getD r21.toNat ((⟨#[]⟩ : ByteArray), ((0 : Int), (false, (false, ((0 : Int), ((0 : Int), (⟨#[]⟩ : ByteArray)))))))); (bif (!v22.2.2.1) then (some false) else (impl_TableOk_L2 n j r21 x14 x15 (IntKind.wrap .i64 (x16 + (1 : Int))) x17 x18 x19))) else none)))) else none) else ((impl_WordOk n x17).bind fun r23 => (bif r23 then ((impl_within n (x18.length : Int) (1 : Int) (8 : Int)).bind fun r24 => (bif r24 then (let v25 : Bool := (decide ((0 : Int) < (x19.length : Int))); (some v25)) else (some false))) else (some false))))
def impl_TableOk_L1 (n : Nat) : Nat → List (ByteArray × (Int × (Bool × (Bool × (Int × (Int × ByteArray)))))) → Int → Int → ByteArray → List (ByteArray × (Int × (Bool × (Bool × (Int × (Int × ByteArray)))))) → List ByteArray → Option Bool
  | 0, _, _, _, _, _, _ => none
  | j + 1, x4, x5, x6, x7, x8, x9 => (bif (decide (x6 < x5)) then (bif (inR x6 x4.length) then (let v10 : (ByteArray × (Int × (Bool × (Bool × (Int × (Int × ByteArray)))))) := (x4.getD x6.toNat ((⟨#[]⟩ : ByteArray), ((0 : Int), (false, (false, ((0 : Int), ((0 : Int), (⟨#[]⟩ : ByteArray)))))))); ((impl_ColOk n v10.1 v10.2.1 v10.2.2.1 v10.2.2.2.1 v10.2.2.2.2.1 v10.2.2.2.2.2.1 v10.2.2.2.2.2.2).bind fun r11 => (bif (!r11) then (some false) else ((impl_ColAt n x7 x8 x9 v10.1).bind fun r12 => (bif (r12 != x6) then (some false) else (impl_TableOk_L1 n j x4 x5 (IntKind.wrap .i64 (x6 + (1 : Int))) x7 x8 x9)))))) else none) else (impl_TableOk_L2 n n (-1 : Int) x9 (x9.length : Int) (0 : Int) x7 x8 x9))
/-- loop.example/g00462/impl.TableOk -/
def impl_TableOk : Nat → ByteArray → (List (ByteArray × (Int × (Bool × (Bool × (Int × (Int × ByteArray))))))) → (List ByteArray) → Option Bool
  | 0, _, _, _ => none
  | n + 1, a1, a2, a3 => (impl_TableOk_L1 n n a2 (a2.length : Int) (0 : Int) a1 a2 a3)
def slices_Equal_impl_Col_impl_Col_L1 (n : Nat) : Nat → List (ByteArray × (Int × (Bool × (Bool × (Int × (Int × ByteArray)))))) → List (ByteArray × (Int × (Bool × (Bool × (Int × (Int × ByteArray)))))) → Int → Int → Option Bool
  | 0, _, _, _, _ => none
  | j + 1, x4, x5, x6, x7 => (bif (decide (x7 < x6)) then (bif (inR x7 x4.length) then (let v8 : (ByteArray × (Int × (Bool × (Bool × (Int × (Int × ByteArray)))))) := (x4.getD x7.toNat ((⟨#[]⟩ : ByteArray), ((0 : Int), (false, (false, ((0 : Int), ((0 : Int), (⟨#[]⟩ : ByteArray)))))))); (bif (inR x7 x5.length) then (let v9 : (ByteArray × (Int × (Bool × (Bool × (Int × (Int × ByteArray)))))) := (x5.getD x7.toNat ((⟨#[]⟩ : ByteArray), ((0 : Int), (false, (false, ((0 : Int), ((0 : Int), (⟨#[]⟩ : ByteArray)))))))); (let v10 : Bool := (!((v8.1.toList == v9.1.toList) && ((v8.2.1 == v9.2.1) && ((v8.2.2.1 == v9.2.2.1) && ((v8.2.2.2.1 == v9.2.2.2.1) && ((v8.2.2.2.2.1 == v9.2.2.2.2.1) && ((v8.2.2.2.2.2.1 == v9.2.2.2.2.2.1) && ((v8.2.2.2.2.2.2.toList == v9.2.2.2.2.2.2.toList) && true)))))))); (bif v10 then (some false) else (slices_Equal_impl_Col_impl_Col_L1 n j x4 x5 x6 (IntKind.wrap .i64 (x7 + (1 : Int))))))) else none)) else none) else (some true))
/-- slices.Equal[[]loop.example/g00462/impl.Col,loop.example/g00462/impl.Col] -/
def slices_Equal_impl_Col_impl_Col : Nat → (List (ByteArray × (Int × (Bool × (Bool × (Int × (Int × ByteArray))))))) → (List (ByteArray × (Int × (Bool × (Bool × (Int × (Int × ByteArray))))))) → Option Bool
  | 0, _, _ => none
  | n + 1, a1, a2 => (let v3 : Bool := ((a1.length : Int) != (a2.length : Int)); (bif v3 then (some false) else (slices_Equal_impl_Col_impl_Col_L1 n n a1 a2 (a1.length : Int) (0 : Int))))
def slices_Equal_string_string_L1 (n : Nat) : Nat → List ByteArray → List ByteArray → Int → Int → Option Bool
  | 0, _, _, _, _ => none
  | j + 1, x4, x5, x6, x7 => (bif (decide (x7 < x6)) then (bif (inR x7 x4.length) then (bif (inR x7 x5.length) then (let v8 : Bool := (!((x4.getD x7.toNat (⟨#[]⟩ : ByteArray)).toList == (x5.getD x7.toNat (⟨#[]⟩ : ByteArray)).toList)); (bif v8 then (some false) else (slices_Equal_string_string_L1 n j x4 x5 x6 (IntKind.wrap .i64 (x7 + (1 : Int)))))) else none) else none) else (some true))
/-- slices.Equal[[]string,string] -/
def slices_Equal_string_string : Nat → (List ByteArray) → (List ByteArray) → Option Bool
  | 0, _, _ => none
  | n + 1, a1, a2 => (let v3 : Bool := ((a1.length : Int) != (a2.length : Int)); (bif v3 then (some false) else (slices_Equal_string_string_L1 n n a1 a2 (a1.length : Int) (0 : Int))))
/-- loop.example/g00462/impl.equalDdl -/
def impl_equalDdl : Nat → Int → ByteArray → (List (ByteArray × (Int × (Bool × (Bool × (Int × (Int × ByteArray))))))) → (List ByteArray) → ByteArray → ByteArray → Int → ByteArray → (List (ByteArray × (Int × (Bool × (Bool × (Int × (Int × ByteArray))))))) → (List ByteArray) → ByteArray → ByteArray → Option Bool
  | 0, _, _, _, _, _, _, _, _, _, _, _, _ => none
  | n + 1, a1, a2, a3, a4, a5, a6, a7, a8, a9, a10, a11, a12 => (bif (a1 == a7) then (bif (a2.toList == a8.toList) then ((slices_Equal_impl_Col_impl_Col n a3 a9).bind fun r13 => (bif r13 then ((slices_Equal_string_string n a4 a10).bind fun r14 => (bif r14 then (bif (a5.toList == a11.toList) then (some (a6.toList == a12.toList)) else (some false)) else (some false))) else (some false))) else (some false)) else (some false))
/-- loop.example/g00462/impl.DdlOk -/
def impl_DdlOk : Nat → Int → ByteArray → (List (ByteArray × (Int × (Bool × (Bool × (Int × (Int × ByteArray))))))) → (List ByteArray) → ByteArray → ByteArray → Option Bool
  | 0, _, _, _, _, _, _ => none
  | n + 1, a1, a2, a3, a4, a5, a6 => ((impl_WordOk n a2).bind fun r7 => (bif (!r7) then (some false) else (let v8 : List (ByteArray × (Int × (Bool × (Bool × (Int × (Int × ByteArray)))))) := ([] : List (ByteArray × (Int × (Bool × (Bool × (Int × (Int × ByteArray))))))); (let v9 : List (ByteArray × (Int × (Bool × (Bool × (Int × (Int × ByteArray)))))) := ([] : List (ByteArray × (Int × (Bool × (Bool × (Int × (Int × ByteArray))))))); (bif (a1 == (1 : Int)) then ((impl_Ddl_made n a1 a2 a3 a4 a5 a6).bind fun r10 => ((impl_TableOk n r10.1 r10.2.1 r10.2.2).bind fun r11 => (bif r11 then (let v12 : Bool := (a5.toList == (⟨#[]⟩ : ByteArray).toList); (bif v12 then (let v13 : Bool := (a6.toList == (⟨#[]⟩ : ByteArray).toList); (some v13)) else (some false))) else (some false)))) else (bif (a1 == (2 : Int)) then ((impl_equalDdl n a1 a2 a3 a4 a5 a6 a1 a2 v8 ([] : List ByteArray) (⟨#[]⟩ : ByteArray) (⟨#[]⟩ : ByteArray)).bind fun r14 => (some r14)) else (bif (a1 == (3 : Int)) then ((impl_equalDdl n a1 a2 a3 a4 a5 a6 a1 a2 a3 ([] : List ByteArray) (⟨#[]⟩ : ByteArray) (⟨#[]⟩ : ByteArray)).bind fun r15 => (bif r15 then (bif ((a3.length : Int) == (1 : Int)) then (bif (inR (0 : Int) a3.length) then (let v16 : (ByteArray × (Int × (Bool × (Bool × (Int × (Int × ByteArray)))))) := (a3.getD (0 : Int).toNat ((⟨#[]⟩ : ByteArray), ((0 : Int), (false, (false, ((0 : Int), ((0 : Int), (⟨#[]⟩ : ByteArray)))))))); ((impl_ColOk n v16.1 v16.2.1 v16.2.2.1 v16.2.2.2.1 v16.2.2.2.2.1 v16.2.2.2.2.2.1 v16.2.2.2.2.2.2).bind fun r17 => (bif r17 then (bif (inR (0 : Int) a3.length) then (let v18 : (ByteArray × (Int × (Bool × (Bool × (Int × (Int × ByteArray)))))) := (a3.getD (0 : Int).toNat ((⟨#[]⟩ : ByteArray), ((0 : Int), (false, (false, ((0 : Int), ((0 : Int), (⟨#[]⟩ : ByteArray)))))))); (bif v18.2.2.2.1 then (some true) else (bif (inR (0 : Int) a3.length) then (let v19 : (ByteArray × (Int × (Bool × (Bool × (Int × (Int × ByteArray)))))) := (a3.getD (0 : Int).toNat ((⟨#[]⟩ : ByteArray), ((0 : Int), (false, (false, ((0 : Int), ((0 : Int), (⟨#[]⟩ : ByteArray)))))))); (some (!v19.2.2.1))) else none))) else none) else (some false)))) else none) else (some false)) else (some false))) else (bif (a1 == (4 : Int)) then ((impl_equalDdl n a1 a2 a3 a4 a5 a6 a1 a2 v8 ([] : List ByteArray) a5 (⟨#[]⟩ : ByteArray)).bind fun r20 => (bif r20 then ((impl_WordOk n a5).bind fun r21 => (some r21)) else (some false))) else (bif (a1 == (5 : Int)) then ((impl_equalDdl n a1 a2 a3 a4 a5 a6 a1 a2 v8 ([] : List ByteArray) a5 a6).bind fun r22 => (bif r22 then ((impl_WordOk n a5).bind fun r23 => (bif r23 then ((impl_WordOk n a6).bind fun r24 => (some r24)) else (some false))) else (some false))) else (some false))))))))))
/-- loop.example/g00462/impl.areVals$1 -/
def impl_areVals_1 : Nat → Int → Int → ByteArray → Option Bool
  | 0, _, _, _ => none
  | n + 1, a1, a2, a3 => ((impl_ValOk n a1 a2 a3).bind fun r4 => (some (!r4)))
def slices_IndexFunc_impl_Val_impl_Val__impl_areVals_1_L1 (n : Nat) : Nat → List (Int × (Int × ByteArray)) → Int → Int → Option Int
  | 0, _, _, _ => none
  | j + 1, x2, x3, x4 => (bif (decide (x4 < x3)) then (bif (inR x4 x2.length) then (let v5 : (Int × (Int × ByteArray)) := (x2.getD x4.toNat ((0 : Int), ((0 : Int), (⟨#[]⟩ : ByteArray)))); ((impl_areVals_1 n v5.1 v5.2.1 v5.2.2).bind fun r6 => (bif r6 then (some x4) else (slices_IndexFunc_impl_Val_impl_Val__impl_areVals_1_L1 n j x2 x3 (IntKind.wrap .i64 (x4 + (1 : Int))))))) else none) else (some (-1 : Int)))
/-- slices.IndexFunc[[]loop.example/g00462/impl.Val,loop.example/g00462/impl.Val] -/
def slices_IndexFunc_impl_Val_impl_Val__impl_areVals_1 : Nat → (List (Int × (Int × ByteArray))) → Option Int
  | 0, _ => none
  | n + 1, a1 => (slices_IndexFunc_impl_Val_impl_Val__impl_areVals_1_L1 n n a1 (a1.length : Int) (0 : Int))
/-- slices.ContainsFunc[[]loop.example/g00462/impl.Val,loop.example/g00462/impl.Val] -/
def slices_ContainsFunc_impl_Val_impl_Val__impl_areVals_1 : Nat → (List (Int × (Int × ByteArray))) → Option Bool
  | 0, _ => none
  | n + 1, a1 => ((slices_IndexFunc_impl_Val_impl_Val__impl_areVals_1 n a1).bind fun r2 => (some (decide ((0 : Int) ≤ r2))))
/-- loop.example/g00462/impl.areVals -/
def impl_areVals : Nat → (List (Int × (Int × ByteArray))) → Option Bool
  | 0, _ => none
  | n + 1, a1 => ((impl_within n (a1.length : Int) (1 : Int) (8 : Int)).bind fun r2 => (bif r2 then ((slices_ContainsFunc_impl_Val_impl_Val__impl_areVals_1 n a1).bind fun r3 => (some (!r3))) else (some false)))
/-- loop.example/g00462/impl.StmtOk -/
def impl_StmtOk : Nat → Int → ByteArray → (List (Int × (Int × ByteArray))) → (List (Int × (Int × ByteArray))) → Int → ByteArray → (List (ByteArray × (Int × (Bool × (Bool × (Int × (Int × ByteArray))))))) → (List ByteArray) → ByteArray → ByteArray → Option Bool
  | 0, _, _, _, _, _, _, _, _, _, _ => none
  | n + 1, a1, a2, a3, a4, a5, a6, a7, a8, a9, a10 => (bif (a1 == (5 : Int)) then ((impl_DdlOk n a5 a6 a7 a8 a9 a10).bind fun r11 => (bif r11 then (bif (a2.toList == a6.toList) then (bif ((a3.length : Int) == (0 : Int)) then (some ((a4.length : Int) == (0 : Int))) else (some false)) else (some false)) else (some false))) else ((impl_WordOk n a2).bind fun r12 => (bif (!r12) then (some false) else (let v13 : List (ByteArray × (Int × (Bool × (Bool × (Int × (Int × ByteArray)))))) := ([] : List (ByteArray × (Int × (Bool × (Bool × (Int × (Int × ByteArray))))))); ((impl_equalDdl n a5 a6 a7 a8 a9 a10 (0 : Int) (⟨#[]⟩ : ByteArray) v13 ([] : List ByteArray) (⟨#[]⟩ : ByteArray) (⟨#[]⟩ : ByteArray)).bind fun r14 => (bif (!r14) then (some false) else (bif (a1 == (1 : Int)) then (bif ((a3.length : Int) == (0 : Int)) then ((impl_areVals n a4).bind fun r15 => (some r15)) else (some false)) else (bif (a1 == (2 : Int)) then ((impl_areVals n a3).bind fun r16 => (bif r16 then ((impl_areVals n a4).bind fun r17 => (some r17)) else (some false))) else (bif (a1 == (3 : Int)) then ((impl_areVals n a3).bind fun r18 => (bif r18 then (some ((a4.length : Int) == (0 : Int))) else (some false))) else (bif (a1 == (4 : Int)) then (bif ((a3.length : Int) == (0 : Int)) then (some ((a4.length : Int) == (0 : Int))) else (some false)) else (some false)))))))))))
def impl_num_o_L1 (n : Nat) : Nat → Int → Int → List Int → Option (List Int)
  | 0, _, _, _ => none
  | j + 1, x4, x5, x6 => (bif (decide ((0 : Int) ≤ x5)) then (bif (decide (0 ≤ (IntKind.wrap .i64 ((8 : Int) * x5)))) then (let v7 : Int := (Int.fdiv x4 (2 ^ min (IntKind.wrap .i64 ((8 : Int) * x5)).toNat (IntKind.bits .i64))); (bif (room (x6.length + ([(IntKind.wrap .u8 v7)] : List Int).length) 1) then (let v8 : List Int := (x6 ++ ([(IntKind.wrap .u8 v7)] : List Int)); (impl_num_o_L1 n j x4 (IntKind.wrap .i64 (x5 - (1 : Int))) v8)) else none)) else none) else (some x6))
/-- loop.example/g00462/impl.num -/
def impl_num_o : Nat → (List Int) → Int → Int → Option (List Int)
  | 0, _, _, _ => none
  | n + 1, a1, a2, a3 => (impl_num_o_L1 n n a2 (IntKind.wrap .i64 (a3 - (1 : Int))) a1)
/-- loop.example/g00462/impl.text -/
def impl_text_o : Nat → (List Int) → ByteArray → Option (List Int)
  | 0, _, _ => none
  | n + 1, a1, a2 => ((impl_num_o n a1 (a2.size : Int) (1 : Int)).bind fun r3 => (bif (room (r3.length + (a2.data.toList.map fun b => (b.toNat : Int)).length) 1) then (let v4 : List Int := (r3 ++ (a2.data.toList.map fun b => (b.toNat : Int))); (some v4)) else none))
/-- loop.example/g00462/impl.flag -/
def impl_flag_o : Nat → (List Int) → Bool → Option (List Int)
  | 0, _, _ => none
  | n + 1, a1, a2 => (bif a2 then (bif (room (a1.length + ([(1 : Int)] : List Int).length) 1) then (some (a1 ++ ([(1 : Int)] : List Int))) else none) else (bif (room (a1.length + ([(0 : Int)] : List Int).length) 1) then (some (a1 ++ ([(0 : Int)] : List Int))) else none))
/-- loop.example/g00462/impl.val -/
def impl_val_o : Nat → (List Int) → Int → Int → ByteArray → Option (List Int)
  | 0, _, _, _, _ => none
  | n + 1, a1, a2, a3, a4 => ((impl_num_o n a1 a2 (1 : Int)).bind fun r5 => (bif (a2 == (1 : Int)) then ((impl_num_o n r5 a3 (1 : Int)).bind fun r6 => (some r6)) else (bif (a2 == (2 : Int)) then ((impl_flag_o n r5 (decide (a3 < (0 : Int)))).bind fun r7 => (let v8 : Int := (bif decide (a3 < (IntKind.wrap .i64 (0 - a3))) then (IntKind.wrap .i64 (0 - a3)) else a3); ((impl_num_o n r7 v8 (6 : Int)).bind fun r9 => (some r9)))) else (bif (a2 == (3 : Int)) then ((impl_text_o n r5 a4).bind fun r10 => (some r10)) else (some r5)))))
def impl_vals_o_L1 (n : Nat) : Nat → List (Int × (Int × ByteArray)) → Int → Int → List Int → Option (List Int)
  | 0, _, _, _, _ => none
  | j + 1, x4, x5, x6, x7 => (bif (decide (x6 < x5)) then (bif (inR x6 x4.length) then (let v8 : (Int × (Int × ByteArray)) := (x4.getD x6.toNat ((0 : Int), ((0 : Int), (⟨#[]⟩ : ByteArray)))); ((impl_val_o n x7 v8.1 v8.2.1 v8.2.2).bind fun r9 => (impl_vals_o_L1 n j x4 x5 (IntKind.wrap .i64 (x6 + (1 : Int))) r9))) else none) else (some x7))
/-- loop.example/g00462/impl.vals -/
def impl_vals_o : Nat → (List Int) → (List (Int × (Int × ByteArray))) → Option (List Int)
  | 0, _, _ => none
  | n + 1, a1, a2 => ((impl_num_o n a1 (a2.length : Int) (1 : Int)).bind fun r3 => (impl_vals_o_L1 n n a2 (a2.length : Int) (0 : Int) r3))
def impl_texts_o_L1 (n : Nat) : Nat → List ByteArray → Int → Int → List Int → Option (List Int)
  | 0, _, _, _, _ => none
  | j + 1, x4, x5, x6, x7 => (bif (decide (x6 < x5)) then (bif (inR x6 x4.length) then ((impl_text_o n x7 (x4.getD x6.toNat (⟨#[]⟩ : ByteArray))).bind fun r8 => (impl_texts_o_L1 n j x4 x5 (IntKind.wrap .i64 (x6 + (1 : Int))) r8)) else none) else (some x7))
/-- loop.example/g00462/impl.texts -/
def impl_texts_o : Nat → (List Int) → (List ByteArray) → Option (List Int)
  | 0, _, _ => none
  | n + 1, a1, a2 => ((impl_num_o n a1 (a2.length : Int) (1 : Int)).bind fun r3 => (impl_texts_o_L1 n n a2 (a2.length : Int) (0 : Int) r3))
def impl_StmtBytes_L1 (n : Nat) : Nat → List (ByteArray × (Int × (Bool × (Bool × (Int × (Int × ByteArray)))))) → Int → Int → List Int → Int → ByteArray → List (ByteArray × (Int × (Bool × (Bool × (Int × (Int × ByteArray)))))) → List ByteArray → ByteArray → ByteArray → Option ((List Int) × (Bool × Unit))
  | 0, _, _, _, _, _, _, _, _, _, _ => none
  | j + 1, x19, x20, x21, x22, x23, x24, x25, x26, x27, x28 => (bif (decide (x21 < x20)) then (bif (inR x21 x19.length) then (let v29 : (ByteArray × (Int × (Bool × (Bool × (Int × (Int × ByteArray)))))) := (x19.getD x21.toNat ((⟨#[]⟩ : ByteArray), ((0 : Int), (false, (false, ((0 : Int), ((0 : Int), (⟨#[]⟩ : ByteArray)))))))); ((impl_text_o n x22 v29.1).bind fun r30 => ((impl_num_o n r30 v29.2.1 (1 : Int)).bind fun r31 => ((impl_flag_o n r31 v29.2.2.1).bind fun r32 => ((impl_flag_o n r32 v29.2.2.2.1).bind fun r33 => ((impl_val_o n r33 v29.2.2.2.2.1 v29.2.2.2.2.2.1 v29.2.2.2.2.2.2).bind fun r34 => (impl_StmtBytes_L1 n j x19 x20 (IntKind.wrap .i64 (x21 + (1 : Int))) r34 x23 x24 x25 x26 x27 x28))))))) else none) else ((impl_texts_o n x22 x26).bind fun r35 => ((impl_text_o n r35 x27).bind fun r36 => ((impl_text_o n r36 x28).bind fun r37 => (some (r37, (true, ())))))))
/-- loop.example/g00462/impl.StmtBytes -/
def impl_StmtBytes : Nat → Int → ByteArray → (List (Int × (Int × ByteArray))) → (List (Int × (Int × ByteArray))) → Int → ByteArray → (List (ByteArray × (Int × (Bool × (Bool × (Int × (Int × ByteArray))))))) → (List ByteArray) → ByteArray → ByteArray → Option ((List Int) × (Bool × Unit))
  | 0, _, _, _, _, _, _, _, _, _, _ => none
  | n + 1, a1, a2, a3, a4, a5, a6, a7, a8, a9, a10 => ((impl_StmtOk n a1 a2 a3 a4 a5 a6 a7 a8 a9 a10).bind fun r11 => (bif (!r11) then (some (([] : List Int), (false, ()))) else (let v12 : List Int := ([(83 : Int), (IntKind.wrap .u8 a1)] : List Int); ((impl_text_o n v12 a2).bind fun r13 => ((impl_vals_o n r13 a3).bind fun r14 => ((impl_vals_o n r14 a4).bind fun r15 => (bif (a1 != (5 : Int)) then (some (r15, (true, ()))) else (let v16 : List (ByteArray × (Int × (Bool × (Bool × (Int × (Int × ByteArray)))))) := ([] : List (ByteArray × (Int × (Bool × (Bool × (Int × (Int × ByteArray))))))); ((impl_num_o n r15 a5 (1 : Int)).bind fun r17 => ((impl_num_o n r17 (a7.length : Int) (1 : Int)).bind fun r18 => (impl_StmtBytes_L1 n n a7 (a7.length : Int) (0 : Int) r18 a5 a6 a7 a8 a9 a10)))))))))))
def laws_eqByteS_L1 (n : Nat) : Nat → List Int → List Int → Int → Option Bool
  | 0, _, _, _ => none
  | j + 1, x4, x5, x6 => (bif (decide (x6 < (x4.length : Int))) then (bif (inR x6 x4.length) then (bif (inR x6 x5.length) then (let v7 : Bool := ((x4.getD x6.toNat (0 : Int)) != (x5.getD x6.toNat (0 : Int))); (bif v7 then (some false) else (laws_eqByteS_L1 n j x4 x5 (IntKind.wrap .i64 (x6 + (1 : Int)))))) else none) else none) else (some true))
/-- loop.example/g00462/laws.eqByteS -/
def laws_eqByteS : Nat → (List Int) → (List Int) → Option Bool
  | 0, _, _ => none
  | n + 1, a1, a2 => (let v3 : Bool := ((a1.length : Int) != (a2.length : Int)); (bif v3 then (some false) else (laws_eqByteS_L1 n n a1 a2 (0 : Int))))
/-- loop.example/g00462/laws.eqVal -/
def laws_eqVal : Nat → Int → Int → ByteArray → Int → Int → ByteArray → Option Bool
  | 0, _, _, _, _, _, _ => none
  | n + 1, a1, a2, a3, a4, a5, a6 => (bif (a1 != a4) then (some false) else (bif (a2 != a5) then (some false) else (bif (!(a3.toList == a6.toList)) then (some false) else (some true))))
def laws_eqValS_L1 (n : Nat) : Nat → List (Int × (Int × ByteArray)) → List (Int × (Int × ByteArray)) → Int → Option Bool
  | 0, _, _, _ => none
  | j + 1, x4, x5, x6 => (bif (decide (x6 < (x4.length : Int))) then (bif (inR x6 x4.length) then (let v7 : (Int × (Int × ByteArray)) := (x4.getD x6.toNat ((0 : Int), ((0 : Int), (⟨#[]⟩ : ByteArray)))); (bif (inR x6 x5.length) then (let v8 : (Int × (Int × ByteArray)) := (x5.getD x6.toNat ((0 : Int), ((0 : Int), (⟨#[]⟩ : ByteArray)))); ((laws_eqVal n v7.1 v7.2.1 v7.2.2 v8.1 v8.2.1 v8.2.2).bind fun r9 => (bif (!r9) then (some false) else (laws_eqValS_L1 n j x4 x5 (IntKind.wrap .i64 (x6 + (1 : Int))))))) else none)) else none) else (some true))
/-- loop.example/g00462/laws.eqValS -/
def laws_eqValS : Nat → (List (Int × (Int × ByteArray))) → (List (Int × (Int × ByteArray))) → Option Bool
  | 0, _, _ => none
  | n + 1, a1, a2 => (let v3 : Bool := ((a1.length : Int) != (a2.length : Int)); (bif v3 then (some false) else (laws_eqValS_L1 n n a1 a2 (0 : Int))))
/-- loop.example/g00462/laws.eqRow -/
def laws_eqRow : Nat → (List (Int × (Int × ByteArray))) → (List (Int × (Int × ByteArray))) → Option Bool
  | 0, _, _ => none
  | n + 1, a1, a2 => ((laws_eqValS n a1 a2).bind fun r3 => (bif (!r3) then (some false) else (some true)))
/-- loop.example/g00462/laws.eqCol -/
def laws_eqCol : Nat → ByteArray → Int → Bool → Bool → Int → Int → ByteArray → ByteArray → Int → Bool → Bool → Int → Int → ByteArray → Option Bool
  | 0, _, _, _, _, _, _, _, _, _, _, _, _, _, _ => none
  | n + 1, a1, a2, a3, a4, a5, a6, a7, a8, a9, a10, a11, a12, a13, a14 => (bif (!(a1.toList == a8.toList)) then (some false) else (bif (a2 != a9) then (some false) else (bif (!(a3 == a10)) then (some false) else (bif (!(a4 == a11)) then (some false) else ((laws_eqVal n a5 a6 a7 a12 a13 a14).bind fun r15 => (bif (!r15) then (some false) else (some true)))))))
def laws_eqColS_L1 (n : Nat) : Nat → List (ByteArray × (Int × (Bool × (Bool × (Int × (Int × ByteArray)))))) → List (ByteArray × (Int × (Bool × (Bool × (Int × (Int × ByteArray)))))) → Int → Option Bool
  | 0, _, _, _ => none
  | j + 1, x4, x5, x6 => (bif (decide (x6 < (x4.length : Int))) then (bif (inR x6 x4.length) then (let v7 : (ByteArray × (Int × (Bool × (Bool × (Int × (Int × ByteArray)))))) := (x4.getD x6.toNat ((⟨#[]⟩ : ByteArray), ((0 : Int), (false, (false, ((0 : Int), ((0 : Int), (⟨#[]⟩ : ByteArray)))))))); (bif (inR x6 x5.length) then (let v8 : (ByteArray × (Int × (Bool × (Bool × (Int × (Int × ByteArray)))))) := (x5.getD x6.toNat ((⟨#[]⟩ : ByteArray), ((0 : Int), (false, (false, ((0 : Int), ((0 : Int), (⟨#[]⟩ : ByteArray)))))))); ((laws_eqCol n v7.1 v7.2.1 v7.2.2.1 v7.2.2.2.1 v7.2.2.2.2.1 v7.2.2.2.2.2.1 v7.2.2.2.2.2.2 v8.1 v8.2.1 v8.2.2.1 v8.2.2.2.1 v8.2.2.2.2.1 v8.2.2.2.2.2.1 v8.2.2.2.2.2.2).bind fun r9 => (bif (!r9) then (some false) else (laws_eqColS_L1 n j x4 x5 (IntKind.wrap .i64 (x6 + (1 : Int))))))) else none)) else none) else (some true))
/-- loop.example/g00462/laws.eqColS -/
def laws_eqColS : Nat → (List (ByteArray × (Int × (Bool × (Bool × (Int × (Int × ByteArray))))))) → (List (ByteArray × (Int × (Bool × (Bool × (Int × (Int × ByteArray))))))) → Option Bool
  | 0, _, _ => none
  | n + 1, a1, a2 => (let v3 : Bool := ((a1.length : Int) != (a2.length : Int)); (bif v3 then (some false) else (laws_eqColS_L1 n n a1 a2 (0 : Int))))
def laws_eqStringS_L1 (n : Nat) : Nat → List ByteArray → List ByteArray → Int → Option Bool
  | 0, _, _, _ => none
  | j + 1, x4, x5, x6 => (bif (decide (x6 < (x4.length : Int))) then (bif (inR x6 x4.length) then (bif (inR x6 x5.length) then (let v7 : Bool := (!((x4.getD x6.toNat (⟨#[]⟩ : ByteArray)).toList == (x5.getD x6.toNat (⟨#[]⟩ : ByteArray)).toList)); (bif v7 then (some false) else (laws_eqStringS_L1 n j x4 x5 (IntKind.wrap .i64 (x6 + (1 : Int)))))) else none) else none) else (some true))
/-- loop.example/g00462/laws.eqStringS -/
def laws_eqStringS : Nat → (List ByteArray) → (List ByteArray) → Option Bool
  | 0, _, _ => none
  | n + 1, a1, a2 => (let v3 : Bool := ((a1.length : Int) != (a2.length : Int)); (bif v3 then (some false) else (laws_eqStringS_L1 n n a1 a2 (0 : Int))))
/-- loop.example/g00462/laws.eqDdl -/
def laws_eqDdl : Nat → Int → ByteArray → (List (ByteArray × (Int × (Bool × (Bool × (Int × (Int × ByteArray))))))) → (List ByteArray) → ByteArray → ByteArray → Int → ByteArray → (List (ByteArray × (Int × (Bool × (Bool × (Int × (Int × ByteArray))))))) → (List ByteArray) → ByteArray → ByteArray → Option Bool
  | 0, _, _, _, _, _, _, _, _, _, _, _, _ => none
  | n + 1, a1, a2, a3, a4, a5, a6, a7, a8, a9, a10, a11, a12 => (bif (a1 != a7) then (some false) else (bif (!(a2.toList == a8.toList)) then (some false) else ((laws_eqColS n a3 a9).bind fun r13 => (bif (!r13) then (some false) else ((laws_eqStringS n a4 a10).bind fun r14 => (bif (!r14) then (some false) else (bif (!(a5.toList == a11.toList)) then (some false) else (bif (!(a6.toList == a12.toList)) then (some false) else (some true)))))))))
/-- loop.example/g00462/laws.eqStmt -/
def laws_eqStmt : Nat → Int → ByteArray → (List (Int × (Int × ByteArray))) → (List (Int × (Int × ByteArray))) → Int → ByteArray → (List (ByteArray × (Int × (Bool × (Bool × (Int × (Int × ByteArray))))))) → (List ByteArray) → ByteArray → ByteArray → Int → ByteArray → (List (Int × (Int × ByteArray))) → (List (Int × (Int × ByteArray))) → Int → ByteArray → (List (ByteArray × (Int × (Bool × (Bool × (Int × (Int × ByteArray))))))) → (List ByteArray) → ByteArray → ByteArray → Option Bool
  | 0, _, _, _, _, _, _, _, _, _, _, _, _, _, _, _, _, _, _, _, _ => none
  | n + 1, a1, a2, a3, a4, a5, a6, a7, a8, a9, a10, a11, a12, a13, a14, a15, a16, a17, a18, a19, a20 => (bif (a1 != a11) then (some false) else (bif (!(a2.toList == a12.toList)) then (some false) else ((laws_eqValS n a3 a13).bind fun r21 => (bif (!r21) then (some false) else ((laws_eqRow n a4 a14).bind fun r22 => (bif (!r22) then (some false) else ((laws_eqDdl n a5 a6 a7 a8 a9 a10 a15 a16 a17 a18 a19 a20).bind fun r23 => (bif (!r23) then (some false) else (some true)))))))))
def laws_markText_L1 (n : Nat) : Nat → Int → ByteArray → Option ByteArray
  | 0, _, _ => none
  | j + 1, x2, x3 => (bif (decide ((0 : Int) < x2)) then (bif (!decide ((10 : Int) = 0)) then (let v4 : Int := (IntKind.wrap .i64 ((48 : Int) + (Int.tmod x2 (10 : Int)))); (let v5 : ByteArray := (strOfNums ([(IntKind.wrap .u8 v4)] : List Int)); (bif (decide (v5.size + x3.size ≤ 9223372036854775807)) then (bif (!decide ((10 : Int) = 0)) then (let v6 : Int := (IntKind.wrap .i64 (Int.tdiv x2 (10 : Int))); (laws_markText_L1 n j v6 (v5 ++ x3))) else none) else none))) else none) else (bif (decide ((⟨#[109]⟩ : ByteArray).size + x3.size ≤ 9223372036854775807)) then (some ((⟨#[109]⟩ : ByteArray) ++ x3)) else none))
/-- loop.example/g00462/laws.markText -/
def laws_markText : Nat → Int → Option ByteArray
  | 0, _ => none
  | n + 1, a1 => (bif (decide (a1 ≤ (0 : Int))) then (some (⟨#[109, 48]⟩ : ByteArray)) else (laws_markText_L1 n n a1 (⟨#[]⟩ : ByteArray)))
def laws_markValS_o_L1 (n : Nat) : Nat → Int → Int → List (Int × (Int × ByteArray)) → Option (Int × ((List (Int × (Int × ByteArray))) × Unit))
  | 0, _, _, _ => none
  | j + 1, x3, x4, x5 => (bif (decide (x4 < (x5.length : Int))) then (bif (inR x4 x5.length) then (let v6 : List (Int × (Int × ByteArray)) := (x5.set x4.toNat (x3, (x5.getD x4.toNat ((0 : Int), ((0 : Int), (⟨#[]⟩ : ByteArray)))).2)); (bif (inR x4 v6.length) then (let v7 : List (Int × (Int × ByteArray)) := (v6.set x4.toNat ((v6.getD x4.toNat ((0 : Int), ((0 : Int), (⟨#[]⟩ : ByteArray)))).1, ((IntKind.wrap .i64 (x3 + (1 : Int))), (v6.getD x4.toNat ((0 : Int), ((0 : Int), (⟨#[]⟩ : ByteArray)))).2.2))); (let v8 : Int := (IntKind.wrap .i64 ((IntKind.wrap .i64 (x3 + (1 : Int))) + (1 : Int))); ((laws_markText n v8).bind fun r9 => (bif (inR x4 v7.length) then (let v10 : List (Int × (Int × ByteArray)) := (v7.set x4.toNat ((v7.getD x4.toNat ((0 : Int), ((0 : Int), (⟨#[]⟩ : ByteArray)))).1, ((v7.getD x4.toNat ((0 : Int), ((0 : Int), (⟨#[]⟩ : ByteArray)))).2.1, r9))); (laws_markValS_o_L1 n j (IntKind.wrap .i64 (v8 + (1 : Int))) (IntKind.wrap .i64 (x4 + (1 : Int))) v10)) else none)))) else none)) else none) else (some (x3, (x5, ()))))
/-- loop.example/g00462/laws.markValS -/
def laws_markValS_o : Nat → (List (Int × (Int × ByteArray))) → Int → Option (Int × ((List (Int × (Int × ByteArray))) × Unit))
  | 0, _, _ => none
  | n + 1, a1, a2 => (laws_markValS_o_L1 n n a2 (0 : Int) a1)
/-- loop.example/g00462/laws.markRow -/
def laws_markRow_o : Nat → (List (Int × (Int × ByteArray))) → Int → Option (Int × ((List (Int × (Int × ByteArray))) × Unit))
  | 0, _, _ => none
  | n + 1, a1, a2 => ((laws_markValS_o n a1 a2).bind fun r3 => (some (r3.1, (r3.2.1, ()))))
def laws_markColS_o_L1 (n : Nat) : Nat → Int → Int → List (ByteArray × (Int × (Bool × (Bool × (Int × (Int × ByteArray)))))) → Option (Int × ((List (ByteArray × (Int × (Bool × (Bool × (Int × (Int × ByteArray))))))) × Unit))
  | 0, _, _, _ => none
  | j + 1, x3, x4, x5 => (bif (decide (x4 < (x5.length : Int))) then ((laws_markText n x3).bind fun r6 => (bif (inR x4 x5.length) then (let v7 : List (ByteArray × (Int × (Bool × (Bool × (Int × (Int × ByteArray)))))) := (x5.set x4.toNat (r6, (x5.getD x4.toNat ((⟨#[]⟩ : ByteArray), ((0 : Int), (false, (false, ((0 : Int), ((0 : Int), (⟨#[]⟩ : ByteArray)))))))).2)); (bif (inR x4 v7.length) then (let v8 : List (ByteArray × (Int × (Bool × (Bool × (Int × (Int × ByteArray)))))) := (v7.set x4.toNat ((v7.getD x4.toNat ((⟨#[]⟩ : ByteArray), ((0 : Int), (false, (false, ((0 : Int), ((0 : Int), (⟨#[]⟩ : ByteArray)))))))).1, ((IntKind.wrap .i64 (x3 + (1 : Int))), (v7.getD x4.toNat ((⟨#[]⟩ : ByteArray), ((0 : Int), (false, (false, ((0 : Int), ((0 : Int), (⟨#[]⟩ : ByteArray)))))))).2.2))); (let v9 : Int := (IntKind.wrap .i64 ((IntKind.wrap .i64 (x3 + (1 : Int))) + (1 : Int))); (bif (!decide ((3 : Int) = 0)) then (bif (inR x4 v8.length) then (let v10 : List (ByteArray × (Int × (Bool × (Bool × (Int × (Int × ByteArray)))))) := (v8.set x4.toNat ((v8.getD x4.toNat ((⟨#[]⟩ : ByteArray), ((0 : Int), (false, (false, ((0 : Int), ((0 : Int), (⟨#[]⟩ : ByteArray)))))))).1, ((v8.getD x4.toNat ((⟨#[]⟩ : ByteArray), ((0 : Int), (false, (false, ((0 : Int), ((0 : Int), (⟨#[]⟩ : ByteArray)))))))).2.1, (((Int.tmod v9 (3 : Int)) == (0 : Int)), (v8.getD x4.toNat ((⟨#[]⟩ : ByteArray), ((0 : Int), (false, (false, ((0 : Int), ((0 : Int), (⟨#[]⟩ : ByteArray)))))))).2.2.2)))); (bif (!decide ((3 : Int) = 0)) then (let v11 : Int := (Int.tmod (IntKind.wrap .i64 (v9 + (1 : Int))) (3 : Int)); (bif (inR x4 v10.length) then (let v12 : List (ByteArray × (Int × (Bool × (Bool × (Int × (Int × ByteArray)))))) := (v10.set x4.toNat ((v10.getD x4.toNat ((⟨#[]⟩ : ByteArray), ((0 : Int), (false, (false, ((0 : Int), ((0 : Int), (⟨#[]⟩ : ByteArray)))))))).1, ((v10.getD x4.toNat ((⟨#[]⟩ : ByteArray), ((0 : Int), (false, (false, ((0 : Int), ((0 : Int), (⟨#[]⟩ : ByteArray)))))))).2.1, ((v10.getD x4.toNat ((⟨#[]⟩ : ByteArray), ((0 : Int), (false, (false, ((0 : Int), ((0 : Int), (⟨#[]⟩ : ByteArray)))))))).2.2.1, ((v11 == (0 : Int)), (v10.getD x4.toNat ((⟨#[]⟩ : ByteArray), ((0 : Int), (false, (false, ((0 : Int), ((0 : Int), (⟨#[]⟩ : ByteArray)))))))).2.2.2.2))))); (let v13 : Int := (IntKind.wrap .i64 ((IntKind.wrap .i64 (v9 + (1 : Int))) + (1 : Int))); (bif (inR x4 v12.length) then (let v14 : List (ByteArray × (Int × (Bool × (Bool × (Int × (Int × ByteArray)))))) := (v12.set x4.toNat ((v12.getD x4.toNat ((⟨#[]⟩ : ByteArray), ((0 : Int), (false, (false, ((0 : Int), ((0 : Int), (⟨#[]⟩ : ByteArray)))))))).1, ((v12.getD x4.toNat ((⟨#[]⟩ : ByteArray), ((0 : Int), (false, (false, ((0 : Int), ((0 : Int), (⟨#[]⟩ : ByteArray)))))))).2.1, ((v12.getD x4.toNat ((⟨#[]⟩ : ByteArray), ((0 : Int), (false, (false, ((0 : Int), ((0 : Int), (⟨#[]⟩ : ByteArray)))))))).2.2.1, ((v12.getD x4.toNat ((⟨#[]⟩ : ByteArray), ((0 : Int), (false, (false, ((0 : Int), ((0 : Int), (⟨#[]⟩ : ByteArray)))))))).2.2.2.1, (v13, (v12.getD x4.toNat ((⟨#[]⟩ : ByteArray), ((0 : Int), (false, (false, ((0 : Int), ((0 : Int), (⟨#[]⟩ : ByteArray)))))))).2.2.2.2.2)))))); (bif (inR x4 v14.length) then (let v15 : List (ByteArray × (Int × (Bool × (Bool × (Int × (Int × ByteArray)))))) := (v14.set x4.toNat ((v14.getD x4.toNat ((⟨#[]⟩ : ByteArray), ((0 : Int), (false, (false, ((0 : Int), ((0 : Int), (⟨#[]⟩ : ByteArray)))))))).1, ((v14.getD x4.toNat ((⟨#[]⟩ : ByteArray), ((0 : Int), (false, (false, ((0 : Int), ((0 : Int), (⟨#[]⟩ : ByteArray)))))))).2.1, ((v14.getD x4.toNat ((⟨#[]⟩ : ByteArray), ((0 : Int), (false, (false, ((0 : Int), ((0 : Int), (⟨#[]⟩ : ByteArray)))))))).2.2.1, ((v14.getD x4.toNat ((⟨#[]⟩ : ByteArray), ((0 : Int), (false, (false, ((0 : Int), ((0 : Int), (⟨#[]⟩ : ByteArray)))))))).2.2.2.1, ((v14.getD x4.toNat ((⟨#[]⟩ : ByteArray), ((0 : Int), (false, (false, ((0 : Int), ((0 : Int), (⟨#[]⟩ : ByteArray)))))))).2.2.2.2.1, ((IntKind.wrap .i64 (v13 + (1 : Int))), (v14.getD x4.toNat ((⟨#[]⟩ : ByteArray), ((0 : Int), (false, (false, ((0 : Int), ((0 : Int), (⟨#[]⟩ : ByteArray)))))))).2.2.2.2.2.2))))))); (let v16 : Int := (IntKind.wrap .i64 ((IntKind.wrap .i64 (v13 + (1 : Int))) + (1 : Int))); ((laws_markText n v16).bind fun r17 => (bif (inR x4 v15.length) then (let v18 : List (ByteArray × (Int × (Bool × (Bool × (Int × (Int × ByteArray)))))) := (v15.set x4.toNat ((v15.getD x4.toNat ((⟨#[]⟩ : ByteArray), ((0 : Int), (false, (false, ((0 : Int), ((0 : Int), (⟨#[]⟩ : ByteArray)))))))).1, ((v15.getD x4.toNat ((⟨#[]⟩ : ByteArray), ((0 : Int), (false, (false, ((0 : Int), ((0 : Int), (⟨#[]⟩ : ByteArray)))))))).2.1, ((v15.getD x4.toNat ((⟨#[]⟩ : ByteArray), ((0 : Int), (false, (false, ((0 : Int), ((0 : Int), (⟨#[]⟩ : ByteArray)))))))).2.2.1, ((v15.getD x4.toNat ((⟨#[]⟩ : ByteArray), ((0 : Int), (false, (false, ((0 : Int), ((0 : Int), (⟨#[]⟩ : ByteArray)))))))).2.2.2.1, ((v15.getD x4.toNat ((⟨#[]⟩ : ByteArray), ((0 : Int), (false, (false, ((0 : Int), ((0 : Int), (⟨#[]⟩ : ByteArray)))))))).2.2.2.2.1, ((v15.getD x4.toNat ((⟨#[]⟩ : ByteArray), ((0 : Int), (false, (false, ((0 : Int), ((0 : Int), (⟨#[]⟩ : ByteArray)))))))).2.2.2.2.2.1, r17))))))); (laws_markColS_o_L1 n j (IntKind.wrap .i64 (v16 + (1 : Int))) (IntKind.wrap .i64 (x4 + (1 : Int))) v18)) else none)))) else none)) else none))) else none)) else none)) else none) else none))) else none)) else none)) else (some (x3, (x5, ()))))
/-- loop.example/g00462/laws.markColS -/
def laws_markColS_o : Nat → (List (ByteArray × (Int × (Bool × (Bool × (Int × (Int × ByteArray))))))) → Int → Option (Int × ((List (ByteArray × (Int × (Bool × (Bool × (Int × (Int × ByteArray))))))) × Unit))
  | 0, _, _ => none
  | n + 1, a1, a2 => (laws_markColS_o_L1 n n a2 (0 : Int) a1)
def laws_markStringS_o_L1 (n : Nat) : Nat → Int → Int → List ByteArray → Option (Int × ((List ByteArray) × Unit))
  | 0, _, _, _ => none
  | j + 1, x3, x4, x5 => (bif (decide (x4 < (x5.length : Int))) then ((laws_markText n x3).bind fun r6 => (bif (inR x4 x5.length) then (laws_markStringS_o_L1 n j (IntKind.wrap .i64 (x3 + (1 : Int))) (IntKind.wrap .i64 (x4 + (1 : Int))) (x5.set x4.toNat r6)) else none)) else (some (x3, (x5, ()))))
/-- loop.example/g00462/laws.markStringS -/
def laws_markStringS_o : Nat → (List ByteArray) → Int → Option (Int × ((List ByteArray) × Unit))
  | 0, _, _ => none
  | n + 1, a1, a2 => (laws_markStringS_o_L1 n n a2 (0 : Int) a1)
/-- loop.example/g00462/laws.markDdl -/
def laws_markDdl_o_o : Nat → Int → ByteArray → (List (ByteArray × (Int × (Bool × (Bool × (Int × (Int × ByteArray))))))) → (List ByteArray) → ByteArray → ByteArray → Int → Option (Int × ((List (ByteArray × (Int × (Bool × (Bool × (Int × (Int × ByteArray))))))) × ((List ByteArray) × Unit)))
  | 0, _, _, _, _, _, _, _ => none
  | n + 1, a1, a2, a3, a4, a5, a6, a7 => ((laws_markColS_o n a3 a7).bind fun r8 => ((laws_markStringS_o n a4 r8.1).bind fun r9 => (some (r9.1, (r8.2.1, (r9.2.1, ()))))))
/-- loop.example/g00462/laws.markStmt -/
def laws_markStmt_o_o_o_o : Nat → Int → ByteArray → (List (Int × (Int × ByteArray))) → (List (Int × (Int × ByteArray))) → Int → ByteArray → (List (ByteArray × (Int × (Bool × (Bool × (Int × (Int × ByteArray))))))) → (List ByteArray) → ByteArray → ByteArray → Int → Option (Int × ((List (Int × (Int × ByteArray))) × ((List (Int × (Int × ByteArray))) × ((List (ByteArray × (Int × (Bool × (Bool × (Int × (Int × ByteArray))))))) × ((List ByteArray) × Unit)))))
  | 0, _, _, _, _, _, _, _, _, _, _, _ => none
  | n + 1, a1, a2, a3, a4, a5, a6, a7, a8, a9, a10, a11 => ((laws_markValS_o n a3 a11).bind fun r12 => ((laws_markRow_o n a4 r12.1).bind fun r13 => ((laws_markDdl_o_o n a5 a6 a7 a8 a9 a10 r13.1).bind fun r14 => (some (r14.1, (r12.2.1, (r13.2.1, (r14.2.1, (r14.2.2.1, ())))))))))
def laws_markByteS_o_L1 (n : Nat) : Nat → Int → Int → List Int → Option (Int × ((List Int) × Unit))
  | 0, _, _, _ => none
  | j + 1, x3, x4, x5 => (bif (decide (x4 < (x5.length : Int))) then (bif (inR x4 x5.length) then (laws_markByteS_o_L1 n j (IntKind.wrap .i64 (x3 + (1 : Int))) (IntKind.wrap .i64 (x4 + (1 : Int))) (x5.set x4.toNat (IntKind.wrap .u8 x3))) else none) else (some (x3, (x5, ()))))
/-- loop.example/g00462/laws.markByteS -/
def laws_markByteS_o : Nat → (List Int) → Int → Option (Int × ((List Int) × Unit))
  | 0, _, _ => none
  | n + 1, a1, a2 => (laws_markByteS_o_L1 n n a2 (0 : Int) a1)
def laws_heldByteS_L1 (n : Nat) : Nat → List Int → Int → Int → Option Int
  | 0, _, _, _ => none
  | j + 1, x3, x4, x5 => (bif (decide (x5 < (x3.length : Int))) then (bif (inR x5 x3.length) then (let v6 : Bool := ((x3.getD x5.toNat (0 : Int)) != (IntKind.wrap .u8 x4)); (bif v6 then (some (-1 : Int)) else (laws_heldByteS_L1 n j x3 (IntKind.wrap .i64 (x4 + (1 : Int))) (IntKind.wrap .i64 (x5 + (1 : Int)))))) else none) else (some x4))
/-- loop.example/g00462/laws.heldByteS -/
def laws_heldByteS : Nat → (List Int) → Int → Option Int
  | 0, _, _ => none
  | n + 1, a1, a2 => (laws_heldByteS_L1 n n a1 a2 (0 : Int))
/-- loop.example/g00462/laws.FnExactStmtBytes -/
def laws_FnExactStmtBytes : Nat → Int → ByteArray → (List (Int × (Int × ByteArray))) → (List (Int × (Int × ByteArray))) → Int → ByteArray → (List (ByteArray × (Int × (Bool × (Bool × (Int × (Int × ByteArray))))))) → (List ByteArray) → ByteArray → ByteArray → Option Bool
  | 0, _, _, _, _, _, _, _, _, _, _ => none
  | n + 1, a1, a2, a3, a4, a5, a6, a7, a8, a9, a10 => ((laws_szStmt n a1 a2 a3 a4 a5 a6 a7 a8 a9 a10 (1048576 : Int)).bind fun r11 => (bif (decide (r11 < (0 : Int))) then (some true) else ((laws_toStmt n a1 a2 a3 a4 a5 a6 a7 a8 a9 a10).bind fun r12 => ((spec_StmtBytes n r12.1 r12.2.1 r12.2.2.1 r12.2.2.2.1 r12.2.2.2.2.1 r12.2.2.2.2.2.1 r12.2.2.2.2.2.2.1 r12.2.2.2.2.2.2.2.1 r12.2.2.2.2.2.2.2.2.1 r12.2.2.2.2.2.2.2.2.2).bind fun r13 => ((laws_toStmt n a1 a2 a3 a4 a5 a6 a7 a8 a9 a10).bind fun r14 => (let v15 : List (ByteArray × (Int × (Bool × (Bool × (Int × (Int × ByteArray)))))) := ([] : List (ByteArray × (Int × (Bool × (Bool × (Int × (Int × ByteArray))))))); ((impl_StmtBytes n r14.1 r14.2.1 r14.2.2.1 r14.2.2.2.1 r14.2.2.2.2.1 r14.2.2.2.2.2.1 r14.2.2.2.2.2.2.1 r14.2.2.2.2.2.2.2.1 r14.2.2.2.2.2.2.2.2.1 r14.2.2.2.2.2.2.2.2.2).bind fun r16 => ((laws_eqByteS n r16.1 r13.1).bind fun r17 => (bif (!r17) then (some false) else (bif (!(r16.2.1 == r13.2.1)) then (some false) else ((laws_toStmt n a1 a2 a3 a4 a5 a6 a7 a8 a9 a10).bind fun r18 => ((laws_eqStmt n r14.1 r14.2.1 r14.2.2.1 r14.2.2.2.1 r14.2.2.2.2.1 r14.2.2.2.2.2.1 r14.2.2.2.2.2.2.1 r14.2.2.2.2.2.2.2.1 r14.2.2.2.2.2.2.2.2.1 r14.2.2.2.2.2.2.2.2.2 r18.1 r18.2.1 r18.2.2.1 r18.2.2.2.1 r18.2.2.2.2.1 r18.2.2.2.2.2.1 r18.2.2.2.2.2.2.1 r18.2.2.2.2.2.2.2.1 r18.2.2.2.2.2.2.2.2.1 r18.2.2.2.2.2.2.2.2.2).bind fun r19 => (bif (!r19) then (some false) else ((laws_markStmt_o_o_o_o n r14.1 r14.2.1 r14.2.2.1 r14.2.2.2.1 r14.2.2.2.2.1 r14.2.2.2.2.2.1 r14.2.2.2.2.2.2.1 r14.2.2.2.2.2.2.2.1 r14.2.2.2.2.2.2.2.2.1 r14.2.2.2.2.2.2.2.2.2 (1 : Int)).bind fun r20 => (bif (decide (r20.1 < (0 : Int))) then (some false) else ((laws_eqByteS n r16.1 r13.1).bind fun r21 => (bif (!r21) then (some false) else (bif (!(r16.2.1 == r13.2.1)) then (some false) else ((laws_markByteS_o n r16.1 (1 : Int)).bind fun r22 => ((laws_heldByteS n r22.2.1 (1 : Int)).bind fun r23 => (bif (decide (r23 < (0 : Int))) then (some false) else (bif (r23 != r22.1) then (some false) else ((laws_toStmt n a1 a2 a3 a4 a5 a6 a7 a8 a9 a10).bind fun r24 => ((impl_StmtBytes n r24.1 r24.2.1 r24.2.2.1 r24.2.2.2.1 r24.2.2.2.2.1 r24.2.2.2.2.2.1 r24.2.2.2.2.2.2.1 r24.2.2.2.2.2.2.2.1 r24.2.2.2.2.2.2.2.2.1 r24.2.2.2.2.2.2.2.2.2).bind fun r25 => ((laws_eqByteS n r25.1 r13.1).bind fun r26 => (bif (!r26) then (some false) else (bif (!(r25.2.1 == r13.2.1)) then (some false) else ((laws_heldByteS n r22.2.1 (1 : Int)).bind fun r27 => (bif (decide (r27 < (0 : Int))) then (some false) else (bif (r27 != r22.1) then (some false) else (some true)))))))))))))))))))))))))))))))
end Go.Proofs.Ytmkiekipgfmggaa.Ev

/- The functions that the law FnExactUsed reaches, as typed functions. -/
import Derived.Test.YtaokfhkeplagcaaEvCore
set_option linter.all false
namespace Go.Proofs.Ytaokfhkeplagcaa.Ev
open Go
/-- loop.example/g00462/laws.szVal -/
def laws_szVal : Nat → Int → Int → ByteArray → Int → Option Int
  | 0, _, _, _, _ => none
  | n + 1, a1, a2, a3, a4 => (let v5 : Int := (IntKind.wrap .i64 (a4 - (a3.size : Int))); (bif (decide (v5 < (0 : Int))) then (some (-1 : Int)) else (some v5)))
def laws_szValS_L1 (n : Nat) : Nat → List (Int × (Int × ByteArray)) → Int → Int → Option Int
  | 0, _, _, _ => none
  | j + 1, x4, x5, x6 => (bif (decide (x6 < (x4.length : Int))) then (bif (inR x6 x4.length) then (let v7 : (Int × (Int × ByteArray)) := (x4.getD x6.toNat ((0 : Int), ((0 : Int), (⟨#[]⟩ : ByteArray)))); ((laws_szVal n v7.1 v7.2.1 v7.2.2 x5).bind fun r8 => (bif (decide (r8 < (0 : Int))) then (some (-1 : Int)) else (laws_szValS_L1 n j x4 r8 (IntKind.wrap .i64 (x6 + (1 : Int))))))) else none) else (some x5))
/-- loop.example/g00462/laws.szValS -/
def laws_szValS : Nat → (List (Int × (Int × ByteArray))) → Int → Option Int
  | 0, _, _ => none
  | n + 1, a1, a2 => (let v3 : Int := (IntKind.wrap .i64 (a2 - (a1.length : Int))); (bif (decide (v3 < (0 : Int))) then (some (-1 : Int)) else (laws_szValS_L1 n n a1 v3 (0 : Int))))
/-- loop.example/g00462/laws.szRow -/
def laws_szRow : Nat → (List (Int × (Int × ByteArray))) → Int → Option Int
  | 0, _, _ => none
  | n + 1, a1, a2 => ((laws_szValS n a1 a2).bind fun r3 => (bif (decide (r3 < (0 : Int))) then (some (-1 : Int)) else (some r3)))
/-- loop.example/g00462/laws.szCol -/
def laws_szCol : Nat → ByteArray → Int → Bool → Bool → Int → Int → ByteArray → Int → Option Int
  | 0, _, _, _, _, _, _, _, _ => none
  | n + 1, a1, a2, a3, a4, a5, a6, a7, a8 => (let v9 : Int := (IntKind.wrap .i64 (a8 - (a1.size : Int))); (bif (decide (v9 < (0 : Int))) then (some (-1 : Int)) else ((laws_szVal n a5 a6 a7 v9).bind fun r10 => (bif (decide (r10 < (0 : Int))) then (some (-1 : Int)) else (some r10)))))
def laws_szColS_L1 (n : Nat) : Nat → List (ByteArray × (Int × (Bool × (Bool × (Int × (Int × ByteArray)))))) → Int → Int → Option Int
  | 0, _, _, _ => none
  | j + 1, x4, x5, x6 => (bif (decide (x6 < (x4.length : Int))) then (bif (inR x6 x4.length) then (let v7 : (ByteArray × (Int × (Bool × (Bool × (Int × (Int × ByteArray)))))) := (x4.getD x6.toNat ((⟨#[]⟩ : ByteArray), ((0 : Int), (false, (false, ((0 : Int), ((0 : Int), (⟨#[]⟩ : ByteArray)))))))); ((laws_szCol n v7.1 v7.2.1 v7.2.2.1 v7.2.2.2.1 v7.2.2.2.2.1 v7.2.2.2.2.2.1 v7.2.2.2.2.2.2 x5).bind fun r8 => (bif (decide (r8 < (0 : Int))) then (some (-1 : Int)) else (laws_szColS_L1 n j x4 r8 (IntKind.wrap .i64 (x6 + (1 : Int))))))) else none) else (some x5))
/-- loop.example/g00462/laws.szColS -/
def laws_szColS : Nat → (List (ByteArray × (Int × (Bool × (Bool × (Int × (Int × ByteArray))))))) → Int → Option Int
  | 0, _, _ => none
  | n + 1, a1, a2 => (let v3 : Int := (IntKind.wrap .i64 (a2 - (a1.length : Int))); (bif (decide (v3 < (0 : Int))) then (some (-1 : Int)) else (laws_szColS_L1 n n a1 v3 (0 : Int))))
def laws_szStringS_L1 (n : Nat) : Nat → List ByteArray → Int → Int → Option Int
  | 0, _, _, _ => none
  | j + 1, x4, x5, x6 => (bif (decide (x6 < (x4.length : Int))) then (bif (inR x6 x4.length) then (let v7 : Int := ((x4.getD x6.toNat (⟨#[]⟩ : ByteArray)).size : Int); (let v8 : Bool := (decide ((IntKind.wrap .i64 (x5 - v7)) < (0 : Int))); (bif v8 then (some (-1 : Int)) else (laws_szStringS_L1 n j x4 (IntKind.wrap .i64 (x5 - v7)) (IntKind.wrap .i64 (x6 + (1 : Int))))))) else none) else (some x5))
/-- loop.example/g00462/laws.szStringS -/
def laws_szStringS : Nat → (List ByteArray) → Int → Option Int
  | 0, _, _ => none
  | n + 1, a1, a2 => (let v3 : Int := (IntKind.wrap .i64 (a2 - (a1.length : Int))); (bif (decide (v3 < (0 : Int))) then (some (-1 : Int)) else (laws_szStringS_L1 n n a1 v3 (0 : Int))))
/-- loop.example/g00462/laws.szDdl -/
def laws_szDdl : Nat → Int → ByteArray → (List (ByteArray × (Int × (Bool × (Bool × (Int × (Int × ByteArray))))))) → (List ByteArray) → ByteArray → ByteArray → Int → Option Int
  | 0, _, _, _, _, _, _, _ => none
  | n + 1, a1, a2, a3, a4, a5, a6, a7 => (let v8 : Int := (IntKind.wrap .i64 (a7 - (a2.size : Int))); (bif (decide (v8 < (0 : Int))) then (some (-1 : Int)) else ((laws_szColS n a3 v8).bind fun r9 => (bif (decide (r9 < (0 : Int))) then (some (-1 : Int)) else ((laws_szStringS n a4 r9).bind fun r10 => (bif (decide (r10 < (0 : Int))) then (some (-1 : Int)) else (let v11 : Int := (IntKind.wrap .i64 (r10 - (a5.size : Int))); (bif (decide (v11 < (0 : Int))) then (some (-1 : Int)) else (let v12 : Int := (IntKind.wrap .i64 (v11 - (a6.size : Int))); (bif (decide (v12 < (0 : Int))) then (some (-1 : Int)) else (some v12)))))))))))
/-- loop.example/g00462/laws.szStmt -/
def laws_szStmt : Nat → Int → ByteArray → (List (Int × (Int × ByteArray))) → (List (Int × (Int × ByteArray))) → Int → ByteArray → (List (ByteArray × (Int × (Bool × (Bool × (Int × (Int × ByteArray))))))) → (List ByteArray) → ByteArray → ByteArray → Int → Option Int
  | 0, _, _, _, _, _, _, _, _, _, _, _ => none
  | n + 1, a1, a2, a3, a4, a5, a6, a7, a8, a9, a10, a11 => (let v12 : Int := (IntKind.wrap .i64 (a11 - (a2.size : Int))); (bif (decide (v12 < (0 : Int))) then (some (-1 : Int)) else ((laws_szValS n a3 v12).bind fun r13 => (bif (decide (r13 < (0 : Int))) then (some (-1 : Int)) else ((laws_szRow n a4 r13).bind fun r14 => (bif (decide (r14 < (0 : Int))) then (some (-1 : Int)) else ((laws_szDdl n a5 a6 a7 a8 a9 a10 r14).bind fun r15 => (bif (decide (r15 < (0 : Int))) then (some (-1 : Int)) else (some r15)))))))))
/-- loop.example/g00462/laws.szRec -/
def laws_szRec : Nat → Int → Int → Int → ByteArray → (List (Int × (Int × ByteArray))) → (List (Int × (Int × ByteArray))) → Int → ByteArray → (List (ByteArray × (Int × (Bool × (Bool × (Int × (Int × ByteArray))))))) → (List ByteArray) → ByteArray → ByteArray → Int → Option Int
  | 0, _, _, _, _, _, _, _, _, _, _, _, _, _ => none
  | n + 1, a1, a2, a3, a4, a5, a6, a7, a8, a9, a10, a11, a12, a13 => ((laws_szStmt n a3 a4 a5 a6 a7 a8 a9 a10 a11 a12 a13).bind fun r14 => (bif (decide (r14 < (0 : Int))) then (some (-1 : Int)) else (some r14)))
def laws_szRecS_L1 (n : Nat) : Nat → List (Int × (Int × (Int × (ByteArray × ((List (Int × (Int × ByteArray))) × ((List (Int × (Int × ByteArray))) × (Int × (ByteArray × ((List (ByteArray × (Int × (Bool × (Bool × (Int × (Int × ByteArray))))))) × ((List ByteArray) × (ByteArray × ByteArray))))))))))) → Int → Int → Option Int
  | 0, _, _, _ => none
  | j + 1, x4, x5, x6 => (bif (decide (x6 < (x4.length : Int))) then (bif (inR x6 x4.length) then (let v7 : (Int × (Int × (Int × (ByteArray × ((List (Int × (Int × ByteArray))) × ((List (Int × (Int × ByteArray))) × (Int × (ByteArray × ((List (ByteArray × (Int × (Bool × (Bool × (Int × (Int × ByteArray))))))) × ((List ByteArray) × (ByteArray × ByteArray))))))))))) := (x4.getD x6.toNat ((0 : Int), ((0 : Int), ((0 : Int), ((⟨#[]⟩ : ByteArray), (([] : (List (Int × (Int × ByteArray)))), (([] : (List (Int × (Int × ByteArray)))), ((0 : Int), ((⟨#[]⟩ : ByteArray), (([] : (List (ByteArray × (Int × (Bool × (Bool × (Int × (Int × ByteArray)))))))), (([] : (List ByteArray)), ((⟨#[]⟩ : ByteArray), (⟨#[]⟩ : ByteArray))))))))))))); ((laws_szRec n v7.1 v7.2.1 v7.2.2.1 v7.2.2.2.1 v7.2.2.2.2.1 v7.2.2.2.2.2.1 v7.2.2.2.2.2.2.1 v7.2.2.2.2.2.2.2.1 v7.2.2.2.2.2.2.2.2.1 v7.2.2.2.2.2.2.2.2.2.1 v7.2.2.2.2.2.2.2.2.2.2.1 v7.2.2.2.2.2.2.2.2.2.2.2 x5).bind fun r8 => (bif (decide (r8 < (0 : Int))) then (some (-1 : Int)) else (laws_szRecS_L1 n j x4 r8 (IntKind.wrap .i64 (x6 + (1 : Int))))))) else none) else (some x5))
/-- loop.example/g00462/laws.szRecS -/
def laws_szRecS : Nat → (List (Int × (Int × (Int × (ByteArray × ((List (Int × (Int × ByteArray))) × ((List (Int × (Int × ByteArray))) × (Int × (ByteArray × ((List (ByteArray × (Int × (Bool × (Bool × (Int × (Int × ByteArray))))))) × ((List ByteArray) × (ByteArray × ByteArray)))))))))))) → Int → Option Int
  | 0, _, _ => none
  | n + 1, a1, a2 => (let v3 : Int := (IntKind.wrap .i64 (a2 - (a1.length : Int))); (bif (decide (v3 < (0 : Int))) then (some (-1 : Int)) else (laws_szRecS_L1 n n a1 v3 (0 : Int))))
/-- loop.example/g00462/laws.toVal -/
def laws_toVal : Nat → Int → Int → ByteArray → Option (Int × (Int × ByteArray))
  | 0, _, _, _ => none
  | n + 1, a1, a2, a3 => (some (a1, (a2, a3)))
def laws_toValS_L1 (n : Nat) : Nat → List (Int × (Int × ByteArray)) → Int → List (Int × (Int × ByteArray)) → Option (List (Int × (Int × ByteArray)))
  | 0, _, _, _ => none
  | j + 1, x3, x4, x5 => (bif (decide (x4 < (x3.length : Int))) then (bif (inR x4 x3.length) then (let v6 : (Int × (Int × ByteArray)) := (x3.getD x4.toNat ((0 : Int), ((0 : Int), (⟨#[]⟩ : ByteArray)))); ((laws_toVal n v6.1 v6.2.1 v6.2.2).bind fun r7 => (bif (inR x4 x5.length) then (let v8 : List (Int × (Int × ByteArray)) := (x5.set x4.toNat (r7.1, (r7.2.1, r7.2.2))); (laws_toValS_L1 n j x3 (IntKind.wrap .i64 (x4 + (1 : Int))) v8)) else none))) else none) else (some x5))
/-- loop.example/g00462/laws.toValS -/
def laws_toValS : Nat → (List (Int × (Int × ByteArray))) → Option (List (Int × (Int × ByteArray)))
  | 0, _ => none
  | n + 1, a1 => (bif (decide ((a1.length : Int) = (a1.length : Int) ∧ 0 ≤ (a1.length : Int)) && room (a1.length : Int).toNat 32) then (let v2 : List (Int × (Int × ByteArray)) := (List.replicate (a1.length : Int).toNat ((0 : Int), ((0 : Int), (⟨#[]⟩ : ByteArray)))); (laws_toValS_L1 n n a1 (0 : Int) v2)) else none)
/-- loop.example/g00462/laws.toRow -/
def laws_toRow : Nat → (List (Int × (Int × ByteArray))) → Option (List (Int × (Int × ByteArray)))
  | 0, _ => none
  | n + 1, a1 => ((laws_toValS n a1).bind fun r2 => (some r2))
/-- loop.example/g00462/laws.toCol -/
def laws_toCol : Nat → ByteArray → Int → Bool → Bool → Int → Int → ByteArray → Option (ByteArray × (Int × (Bool × (Bool × (Int × (Int × ByteArray))))))
  | 0, _, _, _, _, _, _, _ => none
  | n + 1, a1, a2, a3, a4, a5, a6, a7 => ((laws_toVal n a5 a6 a7).bind fun r8 => (some (a1, (a2, (a3, (a4, (r8.1, (r8.2.1, r8.2.2))))))))
def laws_toColS_L1 (n : Nat) : Nat → List (ByteArray × (Int × (Bool × (Bool × (Int × (Int × ByteArray)))))) → Int → List (ByteArray × (Int × (Bool × (Bool × (Int × (Int × ByteArray)))))) → Option (List (ByteArray × (Int × (Bool × (Bool × (Int × (Int × ByteArray)))))))
  | 0, _, _, _ => none
  | j + 1, x4, x5, x6 => (bif (decide (x5 < (x4.length : Int))) then (bif (inR x5 x4.length) then (let v7 : (ByteArray × (Int × (Bool × (Bool × (Int × (Int × ByteArray)))))) := (x4.getD x5.toNat ((⟨#[]⟩ : ByteArray), ((0 : Int), (false, (false, ((0 : Int), ((0 : Int), (⟨#[]⟩ : ByteArray)))))))); ((laws_toCol n v7.1 v7.2.1 v7.2.2.1 v7.2.2.2.1 v7.2.2.2.2.1 v7.2.2.2.2.2.1 v7.2.2.2.2.2.2).bind fun r8 => (bif (inR x5 x6.length) then (let v9 : List (ByteArray × (Int × (Bool × (Bool × (Int × (Int × ByteArray)))))) := (x6.set x5.toNat (r8.1, (r8.2.1, (r8.2.2.1, (r8.2.2.2.1, (r8.2.2.2.2.1, (r8.2.2.2.2.2.1, r8.2.2.2.2.2.2))))))); (laws_toColS_L1 n j x4 (IntKind.wrap .i64 (x5 + (1 : Int))) v9)) else none))) else none) else (some x6))
/-- loop.example/g00462/laws.toColS -/
def laws_toColS : Nat → (List (ByteArray × (Int × (Bool × (Bool × (Int × (Int × ByteArray))))))) → Option (List (ByteArray × (Int × (Bool × (Bool × (Int × (Int × ByteArray)))))))
  | 0, _ => none
  | n + 1, a1 => (let v2 : List (ByteArray × (Int × (Bool × (Bool × (Int × (Int × ByteArray)))))) := ([] : List (ByteArray × (Int × (Bool × (Bool × (Int × (Int × ByteArray))))))); (bif (decide ((a1.length : Int) = (a1.length : Int) ∧ 0 ≤ (a1.length : Int)) && room (a1.length : Int).toNat 64) then (let v3 : List (ByteArray × (Int × (Bool × (Bool × (Int × (Int × ByteArray)))))) := (List.replicate (a1.length : Int).toNat ((⟨#[]⟩ : ByteArray), ((0 : Int), (false, (false, ((0 : Int), ((0 : Int), (⟨#[]⟩ : ByteArray)))))))); (laws_toColS_L1 n n a1 (0 : Int) v3)) else none))
def laws_toStringS_L1 (n : Nat) : Nat → List ByteArray → Int → List ByteArray → Option (List ByteArray)
  | 0, _, _, _ => none
  | j + 1, x3, x4, x5 => (bif (decide (x4 < (x3.length : Int))) then (bif (inR x4 x3.length) then (bif (inR x4 x5.length) then (let v6 : List ByteArray := (x5.set x4.toNat (x3.getD x4.toNat (⟨#[]⟩ : ByteArray))); (laws_toStringS_L1 n j x3 (IntKind.wrap .i64 (x4 + (1 : Int))) v6)) else none) else none) else (some x5))
/-- loop.example/g00462/laws.toStringS -/
def laws_toStringS : Nat → (List ByteArray) → Option (List ByteArray)
  | 0, _ => none
  | n + 1, a1 => (bif (decide ((a1.length : Int) = (a1.length : Int) ∧ 0 ≤ (a1.length : Int)) && room (a1.length : Int).toNat 16) then (let v2 : List ByteArray := (List.replicate (a1.length : Int).toNat (⟨#[]⟩ : ByteArray)); (laws_toStringS_L1 n n a1 (0 : Int) v2)) else none)
/-- loop.example/g00462/laws.toDdl -/
def laws_toDdl : Nat → Int → ByteArray → (List (ByteArray × (Int × (Bool × (Bool × (Int × (Int × ByteArray))))))) → (List ByteArray) → ByteArray → ByteArray → Option (Int × (ByteArray × ((List (ByteArray × (Int × (Bool × (Bool × (Int × (Int × ByteArray))))))) × ((List ByteArray) × (ByteArray × ByteArray)))))
  | 0, _, _, _, _, _, _ => none
  | n + 1, a1, a2, a3, a4, a5, a6 => (let v7 : List (ByteArray × (Int × (Bool × (Bool × (Int × (Int × ByteArray)))))) := ([] : List (ByteArray × (Int × (Bool × (Bool × (Int × (Int × ByteArray))))))); (let v8 : List (ByteArray × (Int × (Bool × (Bool × (Int × (Int × ByteArray)))))) := ([] : List (ByteArray × (Int × (Bool × (Bool × (Int × (Int × ByteArray))))))); ((laws_toColS n a3).bind fun r9 => ((laws_toStringS n a4).bind fun r10 => (some (a1, (a2, (r9, (r10, (a5, a6))))))))))
/-- loop.example/g00462/laws.toStmt -/
def laws_toStmt : Nat → Int → ByteArray → (List (Int × (Int × ByteArray))) → (List (Int × (Int × ByteArray))) → Int → ByteArray → (List (ByteArray × (Int × (Bool × (Bool × (Int × (Int × ByteArray))))))) → (List ByteArray) → ByteArray → ByteArray → Option (Int × (ByteArray × ((List (Int × (Int × ByteArray))) × ((List (Int × (Int × ByteArray))) × (Int × (ByteArray × ((List (ByteArray × (Int × (Bool × (Bool × (Int × (Int × ByteArray))))))) × ((List ByteArray) × (ByteArray × ByteArray)))))))))
  | 0, _, _, _, _, _, _, _, _, _, _ => none
  | n + 1, a1, a2, a3, a4, a5, a6, a7, a8, a9, a10 => (let v11 : List (ByteArray × (Int × (Bool × (Bool × (Int × (Int × ByteArray)))))) := ([] : List (ByteArray × (Int × (Bool × (Bool × (Int × (Int × ByteArray))))))); (let v12 : List (ByteArray × (Int × (Bool × (Bool × (Int × (Int × ByteArray)))))) := ([] : List (ByteArray × (Int × (Bool × (Bool × (Int × (Int × ByteArray))))))); ((laws_toValS n a3).bind fun r13 => ((laws_toRow n a4).bind fun r14 => ((laws_toDdl n a5 a6 a7 a8 a9 a10).bind fun r15 => (some (a1, (a2, (r13, (r14, (r15.1, (r15.2.1, (r15.2.2.1, (r15.2.2.2.1, (r15.2.2.2.2.1, r15.2.2.2.2.2)))))))))))))))
/-- loop.example/g00462/laws.toRec -/
def laws_toRec : Nat → Int → Int → Int → ByteArray → (List (Int × (Int × ByteArray))) → (List (Int × (Int × ByteArray))) → Int → ByteArray → (List (ByteArray × (Int × (Bool × (Bool × (Int × (Int × ByteArray))))))) → (List ByteArray) → ByteArray → ByteArray → Option (Int × (Int × (Int × (ByteArray × ((List (Int × (Int × ByteArray))) × ((List (Int × (Int × ByteArray))) × (Int × (ByteArray × ((List (ByteArray × (Int × (Bool × (Bool × (Int × (Int × ByteArray))))))) × ((List ByteArray) × (ByteArray × ByteArray)))))))))))
  | 0, _, _, _, _, _, _, _, _, _, _, _, _ => none
  | n + 1, a1, a2, a3, a4, a5, a6, a7, a8, a9, a10, a11, a12 => (let v13 : List (ByteArray × (Int × (Bool × (Bool × (Int × (Int × ByteArray)))))) := ([] : List (ByteArray × (Int × (Bool × (Bool × (Int × (Int × ByteArray))))))); (let v14 : List (ByteArray × (Int × (Bool × (Bool × (Int × (Int × ByteArray)))))) := ([] : List (ByteArray × (Int × (Bool × (Bool × (Int × (Int × ByteArray))))))); ((laws_toStmt n a3 a4 a5 a6 a7 a8 a9 a10 a11 a12).bind fun r15 => (some (a1, (a2, (r15.1, (r15.2.1, (r15.2.2.1, (r15.2.2.2.1, (r15.2.2.2.2.1, (r15.2.2.2.2.2.1, (r15.2.2.2.2.2.2.1, (r15.2.2.2.2.2.2.2.1, (r15.2.2.2.2.2.2.2.2.1, r15.2.2.2.2.2.2.2.2.2)))))))))))))))
def laws_toRecS_L1 (n : Nat) : Nat → List (Int × (Int × (Int × (ByteArray × ((List (Int × (Int × ByteArray))) × ((List (Int × (Int × ByteArray))) × (Int × (ByteArray × ((List (ByteArray × (Int × (Bool × (Bool × (Int × (Int × ByteArray))))))) × ((List ByteArray) × (ByteArray × ByteArray))))))))))) → Int → List (Int × (Int × (Int × (ByteArray × ((List (Int × (Int × ByteArray))) × ((List (Int × (Int × ByteArray))) × (Int × (ByteArray × ((List (ByteArray × (Int × (Bool × (Bool × (Int × (Int × ByteArray))))))) × ((List ByteArray) × (ByteArray × ByteArray))))))))))) → Option (List (Int × (Int × (Int × (ByteArray × ((List (Int × (Int × ByteArray))) × ((List (Int × (Int × ByteArray))) × (Int × (ByteArray × ((List (ByteArray × (Int × (Bool × (Bool × (Int × (Int × ByteArray))))))) × ((List ByteArray) × (ByteArray × ByteArray))))))))))))
  | 0, _, _, _ => none
  | j + 1, x4, x5, x6 => (bif (decide (x5 < (x4.length : Int))) then (bif (inR x5 x4.length) then (let v7 : (Int × (Int × (Int × (ByteArray × ((List (Int × (Int × ByteArray))) × ((List (Int × (Int × ByteArray))) × (Int × (ByteArray × ((List (ByteArray × (Int × (Bool × (Bool × (Int × (Int × ByteArray))))))) × ((List ByteArray) × (ByteArray × ByteArray))))))))))) := (x4.getD x5.toNat ((0 : Int), ((0 : Int), ((0 : Int), ((⟨#[]⟩ : ByteArray), (([] : (List (Int × (Int × ByteArray)))), (([] : (List (Int × (Int × ByteArray)))), ((0 : Int), ((⟨#[]⟩ : ByteArray), (([] : (List (ByteArray × (Int × (Bool × (Bool × (Int × (Int × ByteArray)))))))), (([] : (List ByteArray)), ((⟨#[]⟩ : ByteArray), (⟨#[]⟩ : ByteArray))))))))))))); ((laws_toRec n v7.1 v7.2.1 v7.2.2.1 v7.2.2.2.1 v7.2.2.2.2.1 v7.2.2.2.2.2.1 v7.2.2.2.2.2.2.1 v7.2.2.2.2.2.2.2.1 v7.2.2.2.2.2.2.2.2.1 v7.2.2.2.2.2.2.2.2.2.1 v7.2.2.2.2.2.2.2.2.2.2.1 v7.2.2.2.2.2.2.2.2.2.2.2).bind fun r8 => (bif (inR x5 x6.length) then (let v9 : List (Int × (Int × (Int × (ByteArray × ((List (Int × (Int × ByteArray))) × ((List (Int × (Int × ByteArray))) × (Int × (ByteArray × ((List (ByteArray × (Int × (Bool × (Bool × (Int × (Int × ByteArray))))))) × ((List ByteArray) × (ByteArray × ByteArray))))))))))) := (x6.set x5.toNat (r8.1, (r8.2.1, (r8.2.2.1, (r8.2.2.2.1, (r8.2.2.2.2.1, (r8.2.2.2.2.2.1, (r8.2.2.2.2.2.2.1, (r8.2.2.2.2.2.2.2.1, (r8.2.2.2.2.2.2.2.2.1, (r8.2.2.2.2.2.2.2.2.2.1, (r8.2.2.2.2.2.2.2.2.2.2.1, r8.2.2.2.2.2.2.2.2.2.2.2)))))))))))); (laws_toRecS_L1 n j x4 (IntKind.wrap .i64 (x5 + (1 : Int))) v9)) else none))) else none) else (some x6))
/-- loop.example/g00462/laws.toRecS -/
def laws_toRecS : Nat → (List (Int × (Int × (Int × (ByteArray × ((List (Int × (Int × ByteArray))) × ((List (Int × (Int × ByteArray))) × (Int × (ByteArray × ((List (ByteArray × (Int × (Bool × (Bool × (Int × (Int × ByteArray))))))) × ((List ByteArray) × (ByteArray × ByteArray)))))))))))) → Option (List (Int × (Int × (Int × (ByteArray × ((List (Int × (Int × ByteArray))) × ((List (Int × (Int × ByteArray))) × (Int × (ByteArray × ((List (ByteArray × (Int × (Bool × (Bool × (Int × (Int × ByteArray))))))) × ((List ByteArray) × (ByteArray × ByteArray))))))))))))
  | 0, _ => none
  | n + 1, a1 => (let v2 : List (Int × (Int × (Int × (ByteArray × ((List (Int × (Int × ByteArray))) × ((List (Int × (Int × ByteArray))) × (Int × (ByteArray × ((List (ByteArray × (Int × (Bool × (Bool × (Int × (Int × ByteArray))))))) × ((List ByteArray) × (ByteArray × ByteArray))))))))))) := ([] : List (Int × (Int × (Int × (ByteArray × ((List (Int × (Int × ByteArray))) × ((List (Int × (Int × ByteArray))) × (Int × (ByteArray × ((List (ByteArray × (Int × (Bool × (Bool × (Int × (Int × ByteArray))))))) × ((List ByteArray) × (ByteArray × ByteArray)))))))))))); (bif (decide ((a1.length : Int) = (a1.length : Int) ∧ 0 ≤ (a1.length : Int)) && room (a1.length : Int).toNat 192) then (let v3 : List (Int × (Int × (Int × (ByteArray × ((List (Int × (Int × ByteArray))) × ((List (Int × (Int × ByteArray))) × (Int × (ByteArray × ((List (ByteArray × (Int × (Bool × (Bool × (Int × (Int × ByteArray))))))) × ((List ByteArray) × (ByteArray × ByteArray))))))))))) := (List.replicate (a1.length : Int).toNat ((0 : Int), ((0 : Int), ((0 : Int), ((⟨#[]⟩ : ByteArray), (([] : (List (Int × (Int × ByteArray)))), (([] : (List (Int × (Int × ByteArray)))), ((0 : Int), ((⟨#[]⟩ : ByteArray), (([] : (List (ByteArray × (Int × (Bool × (Bool × (Int × (Int × ByteArray)))))))), (([] : (List ByteArray)), ((⟨#[]⟩ : ByteArray), (⟨#[]⟩ : ByteArray))))))))))))); (laws_toRecS_L1 n n a1 (0 : Int) v3)) else none))
def spec_Used_L1 (n : Nat) : Nat → Int → List (Int × (Int × (Int × (ByteArray × ((List (Int × (Int × ByteArray))) × ((List (Int × (Int × ByteArray))) × (Int × (ByteArray × ((List (ByteArray × (Int × (Bool × (Bool × (Int × (Int × ByteArray))))))) × ((List ByteArray) × (ByteArray × ByteArray))))))))))) → Int → Int → Option Bool
  | 0, _, _, _, _ => none
  | j + 1, x3, x4, x5, x6 => (bif (decide (x6 < x5)) then (bif (inR x6 x4.length) then (let v7 : (Int × (Int × (Int × (ByteArray × ((List (Int × (Int × ByteArray))) × ((List (Int × (Int × ByteArray))) × (Int × (ByteArray × ((List (ByteArray × (Int × (Bool × (Bool × (Int × (Int × ByteArray))))))) × ((List ByteArray) × (ByteArray × ByteArray))))))))))) := (x4.getD x6.toNat ((0 : Int), ((0 : Int), ((0 : Int), ((⟨#[]⟩ : ByteArray), (([] : (List (Int × (Int × ByteArray)))), (([] : (List (Int × (Int × ByteArray)))), ((0 : Int), ((⟨#[]⟩ : ByteArray), (([] : (List (ByteArray × (Int × (Bool × (Bool × (Int × (Int × ByteArray)))))))), (([] : (List ByteArray)), ((⟨#[]⟩ : ByteArray), (⟨#[]⟩ : ByteArray))))))))))))); (let v8 : List (ByteArray × (Int × (Bool × (Bool × (Int × (Int × ByteArray)))))) := ([] : List (ByteArray × (Int × (Bool × (Bool × (Int × (Int × ByteArray))))))); (bif (v7.1 == (1 : Int)) then (bif (v7.2.1 == x3) then (some true) else (spec_Used_L1 n j x3 x4 x5 (IntKind.wrap .i64 (x6 + (1 : Int))))) else (spec_Used_L1 n j x3 x4 x5 (IntKind.wrap .i64 (x6 + (1 : Int))))))) else none) else (some false))
/-- loop.example/g00462/spec.Used -/
def spec_Used : Nat → (List (Int × (Int × (Int × (ByteArray × ((List (Int × (Int × ByteArray))) × ((List (Int × (Int × ByteArray))) × (Int × (ByteArray × ((List (ByteArray × (Int × (Bool × (Bool × (Int × (Int × ByteArray))))))) × ((List ByteArray) × (ByteArray × ByteArray)))))))))))) → Int → Option Bool
  | 0, _, _ => none
  | n + 1, a1, a2 => (spec_Used_L1 n n a2 a1 (a1.length : Int) (0 : Int))
/-- loop.example/g00462/impl.Used$1 -/
def impl_Used_1 : Nat → Int → Int → Int → ByteArray → (List (Int × (Int × ByteArray))) → (List (Int × (Int × ByteArray))) → Int → ByteArray → (List (ByteArray × (Int × (Bool × (Bool × (Int × (Int × ByteArray))))))) → (List ByteArray) → ByteArray → ByteArray → Int → Option Bool
  | 0, _, _, _, _, _, _, _, _, _, _, _, _, _ => none
  | n + 1, a1, a2, a3, a4, a5, a6, a7, a8, a9, a10, a11, a12, a13 => (bif (a1 == (1 : Int)) then (some (a2 == a13)) else (some false))
def slices_IndexFunc_impl_Rec_impl_Rec__impl_Used_1_L1 (n : Nat) : Nat → List (Int × (Int × (Int × (ByteArray × ((List (Int × (Int × ByteArray))) × ((List (Int × (Int × ByteArray))) × (Int × (ByteArray × ((List (ByteArray × (Int × (Bool × (Bool × (Int × (Int × ByteArray))))))) × ((List ByteArray) × (ByteArray × ByteArray))))))))))) → Int → Int → Int → Option Int
  | 0, _, _, _, _ => none
  | j + 1, x3, x4, x5, x6 => (bif (decide (x6 < x5)) then (bif (inR x6 x3.length) then (let v7 : (Int × (Int × (Int × (ByteArray × ((List (Int × (Int × ByteArray))) × ((List (Int × (Int × ByteArray))) × (Int × (ByteArray × ((List (ByteArray × (Int × (Bool × (Bool × (Int × (Int × ByteArray))))))) × ((List ByteArray) × (ByteArray × ByteArray))))))))))) := (x3.getD x6.toNat ((0 : Int), ((0 : Int), ((0 : Int), ((⟨#[]⟩ : ByteArray), (([] : (List (Int × (Int × ByteArray)))), (([] : (List (Int × (Int × ByteArray)))), ((0 : Int), ((⟨#[]⟩ : ByteArray), (([] : (List (ByteArray × (Int × (Bool × (Bool × (Int × (Int × ByteArray)))))))), (([] : (List ByteArray)), ((⟨#[]⟩ : ByteArray), (⟨#[]⟩ : ByteArray))))))))))))); ((impl_Used_1 n v7.1 v7.2.1 v7.2.2.1 v7.2.2.2.1 v7.2.2.2.2.1 v7.2.2.2.2.2.1 v7.2.2.2.2.2.2.1 v7.2.2.2.2.2.2.2.1 v7.2.2.2.2.2.2.2.2.1 v7.2.2.2.2.2.2.2.2.2.1 v7.2.2.2.2.2.2.2.2.2.2.1 v7.2.2.2.2.2.2.2.2.2.2.2 x4).bind fun r8 => (bif r8 then (some x6) else (slices_IndexFunc_impl_Rec_impl_Rec__impl_Used_1_L1 n j x3 x4 x5 (IntKind.wrap .i64 (x6 + (1 : Int))))))) else none) else (some (-1 : Int)))
/-- slices.IndexFunc[[]loop.example/g00462/impl.Rec,loop.example/g00462/impl.Rec] -/
def slices_IndexFunc_impl_Rec_impl_Rec__impl_Used_1 : Nat → (List (Int × (Int × (Int × (ByteArray × ((List (Int × (Int × ByteArray))) × ((List (Int × (Int × ByteArray))) × (Int × (ByteArray × ((List (ByteArray × (Int × (Bool × (Bool × (Int × (Int × ByteArray))))))) × ((List ByteArray) × (ByteArray × ByteArray)))))))))))) → Int → Option Int
  | 0, _, _ => none
  | n + 1, a1, a2 => (slices_IndexFunc_impl_Rec_impl_Rec__impl_Used_1_L1 n n a1 a2 (a1.length : Int) (0 : Int))
/-- slices.ContainsFunc[[]loop.example/g00462/impl.Rec,loop.example/g00462/impl.Rec] -/
def slices_ContainsFunc_impl_Rec_impl_Rec__impl_Used_1 : Nat → (List (Int × (Int × (Int × (ByteArray × ((List (Int × (Int × ByteArray))) × ((List (Int × (Int × ByteArray))) × (Int × (ByteArray × ((List (ByteArray × (Int × (Bool × (Bool × (Int × (Int × ByteArray))))))) × ((List ByteArray) × (ByteArray × ByteArray)))))))))))) → Int → Option Bool
  | 0, _, _ => none
  | n + 1, a1, a2 => ((slices_IndexFunc_impl_Rec_impl_Rec__impl_Used_1 n a1 a2).bind fun r3 => (some (decide ((0 : Int) ≤ r3))))
/-- loop.example/g00462/impl.Used -/
def impl_Used : Nat → (List (Int × (Int × (Int × (ByteArray × ((List (Int × (Int × ByteArray))) × ((List (Int × (Int × ByteArray))) × (Int × (ByteArray × ((List (ByteArray × (Int × (Bool × (Bool × (Int × (Int × ByteArray))))))) × ((List ByteArray) × (ByteArray × ByteArray)))))))))))) → Int → Option Bool
  | 0, _, _ => none
  | n + 1, a1, a2 => ((slices_ContainsFunc_impl_Rec_impl_Rec__impl_Used_1 n a1 a2).bind fun r3 => (some r3))
/-- loop.example/g00462/laws.eqVal -/
def laws_eqVal : Nat → Int → Int → ByteArray → Int → Int → ByteArray → Option Bool
  | 0, _, _, _, _, _, _ => none
  | n + 1, a1, a2, a3, a4, a5, a6 => (bif (a1 != a4) then (some false) else (bif (a2 != a5) then (some false) else (bif (!(a3.toList == a6.toList)) then (some false) else (some true))))
def laws_eqValS_L1 (n : Nat) : Nat → List (Int × (Int × ByteArray)) → List (Int × (Int × ByteArray)) → Int → Option Bool
  | 0, _, _, _ => none
  | j + 1, x4, x5, x6 => (bif (decide (x6 < (x4.length : Int))) then (bif (inR x6 x4.length) then (let v7 : (Int × (Int × ByteArray)) := (x4.getD x6.toNat ((0 : Int), ((0 : Int), (⟨#[]⟩ : ByteArray)))); (bif (inR x6 x5.length) then (let v8 : (Int × (Int × ByteArray)) := (x5.getD x6.toNat ((0 : Int), ((0 : Int), (⟨#[]⟩ : ByteArray)))); ((laws_eqVal n v7.1 v7.2.1 v7.2.2 v8.1 v8.2.1 v8.2.2).bind fun r9 => (bif (!r9) then (some false) else (laws_eqValS_L1 n j x4 x5 (IntKind.wrap .i64 (x6 + (1 : Int))))))) else none)) else none) else (some true))
/-- loop.example/g00462/laws.eqValS -/
def laws_eqValS : Nat → (List (Int × (Int × ByteArray))) → (List (Int × (Int × ByteArray))) → Option Bool
  | 0, _, _ => none
  | n + 1, a1, a2 => (let v3 : Bool := ((a1.length : Int) != (a2.length : Int)); (bif v3 then (some false) else (laws_eqValS_L1 n n a1 a2 (0 : Int))))
/-- loop.example/g00462/laws.eqRow -/
def laws_eqRow : Nat → (List (Int × (Int × ByteArray))) → (List (Int × (Int × ByteArray))) → Option Bool
  | 0, _, _ => none
  | n + 1, a1, a2 => ((laws_eqValS n a1 a2).bind fun r3 => (bif (!r3) then (some false) else (some true)))
/-- loop.example/g00462/laws.eqCol -/
def laws_eqCol : Nat → ByteArray → Int → Bool → Bool → Int → Int → ByteArray → ByteArray → Int → Bool → Bool → Int → Int → ByteArray → Option Bool
  | 0, _, _, _, _, _, _, _, _, _, _, _, _, _, _ => none
  | n + 1, a1, a2, a3, a4, a5, a6, a7, a8, a9, a10, a11, a12, a13, a14 => (bif (!(a1.toList == a8.toList)) then (some false) else (bif (a2 != a9) then (some false) else (bif (!(a3 == a10)) then (some false) else (bif (!(a4 == a11)) then (some false) else ((laws_eqVal n a5 a6 a7 a12 a13 a14).bind fun r15 => (bif (!r15) then (some false) else (some true)))))))
def laws_eqColS_L1 (n : Nat) : Nat → List (ByteArray × (Int × (Bool × (Bool × (Int × (Int × ByteArray)))))) → List (ByteArray × (Int × (Bool × (Bool × (Int × (Int × ByteArray)))))) → Int → Option Bool
  | 0, _, _, _ => none
  | j + 1, x4, x5, x6 => (bif (decide (x6 < (x4.length : Int))) then (bif (inR x6 x4.length) then (let v7 : (ByteArray × (Int × (Bool × (Bool × (Int × (Int × ByteArray)))))) := (x4.getD x6.toNat ((⟨#[]⟩ : ByteArray), ((0 : Int), (false, (false, ((0 : Int), ((0 : Int), (⟨#[]⟩ : ByteArray)))))))); (bif (inR x6 x5.length) then (let v8 : (ByteArray × (Int × (Bool × (Bool × (Int × (Int × ByteArray)))))) := (x5.getD x6.toNat ((⟨#[]⟩ : ByteArray), ((0 : Int), (false, (false, ((0 : Int), ((0 : Int), (⟨#[]⟩ : ByteArray)))))))); ((laws_eqCol n v7.1 v7.2.1 v7.2.2.1 v7.2.2.2.1 v7.2.2.2.2.1 v7.2.2.2.2.2.1 v7.2.2.2.2.2.2 v8.1 v8.2.1 v8.2.2.1 v8.2.2.2.1 v8.2.2.2.2.1 v8.2.2.2.2.2.1 v8.2.2.2.2.2.2).bind fun r9 => (bif (!r9) then (some false) else (laws_eqColS_L1 n j x4 x5 (IntKind.wrap .i64 (x6 + (1 : Int))))))) else none)) else none) else (some true))
/-- loop.example/g00462/laws.eqColS -/
def laws_eqColS : Nat → (List (ByteArray × (Int × (Bool × (Bool × (Int × (Int × ByteArray))))))) → (List (ByteArray × (Int × (Bool × (Bool × (Int × (Int × ByteArray))))))) → Option Bool
  | 0, _, _ => none
  | n + 1, a1, a2 => (let v3 : Bool := ((a1.length : Int) != (a2.length : Int)); (bif v3 then (some false) else (laws_eqColS_L1 n n a1 a2 (0 : Int))))
def laws_eqStringS_L1 (n : Nat) : Nat → List ByteArray → List ByteArray → Int → Option Bool
  | 0, _, _, _ => none
  | j + 1, x4, x5, x6 => (bif (decide (x6 < (x4.length : Int))) then (bif (inR x6 x4.length) then (bif (inR x6 x5.length) then (let v7 : Bool := (!((x4.getD x6.toNat (⟨#[]⟩ : ByteArray)).toList == (x5.getD x6.toNat (⟨#[]⟩ : ByteArray)).toList)); (bif v7 then (some false) else (laws_eqStringS_L1 n j x4 x5 (IntKind.wrap .i64 (x6 + (1 : Int)))))) else none) else none) else (some true))
/-- loop.example/g00462/laws.eqStringS -/
def laws_eqStringS : Nat → (List ByteArray) → (List ByteArray) → Option Bool
  | 0, _, _ => none
  | n + 1, a1, a2 => (let v3 : Bool := ((a1.length : Int) != (a2.length : Int)); (bif v3 then (some false) else (laws_eqStringS_L1 n n a1 a2 (0 : Int))))
/-- loop.example/g00462/laws.eqDdl -/
def laws_eqDdl : Nat → Int → ByteArray → (List (ByteArray × (Int × (Bool × (Bool × (Int × (Int × ByteArray))))))) → (List ByteArray) → ByteArray → ByteArray → Int → ByteArray → (List (ByteArray × (Int × (Bool × (Bool × (Int × (Int × ByteArray))))))) → (List ByteArray) → ByteArray → ByteArray → Option Bool
  | 0, _, _, _, _, _, _, _, _, _, _, _, _ => none
  | n + 1, a1, a2, a3, a4, a5, a6, a7, a8, a9, a10, a11, a12 => (bif (a1 != a7) then (some false) else (bif (!(a2.toList == a8.toList)) then (some false) else ((laws_eqColS n a3 a9).bind fun r13 => (bif (!r13) then (some false) else ((laws_eqStringS n a4 a10).bind fun r14 => (bif (!r14) then (some false) else (bif (!(a5.toList == a11.toList)) then (some false) else (bif (!(a6.toList == a12.toList)) then (some false) else (some true)))))))))
/-- loop.example/g00462/laws.eqStmt -/
def laws_eqStmt : Nat → Int → ByteArray → (List (Int × (Int × ByteArray))) → (List (Int × (Int × ByteArray))) → Int → ByteArray → (List (ByteArray × (Int × (Bool × (Bool × (Int × (Int × ByteArray))))))) → (List ByteArray) → ByteArray → ByteArray → Int → ByteArray → (List (Int × (Int × ByteArray))) → (List (Int × (Int × ByteArray))) → Int → ByteArray → (List (ByteArray × (Int × (Bool × (Bool × (Int × (Int × ByteArray))))))) → (List ByteArray) → ByteArray → ByteArray → Option Bool
  | 0, _, _, _, _, _, _, _, _, _, _, _, _, _, _, _, _, _, _, _, _ => none
  | n + 1, a1, a2, a3, a4, a5, a6, a7, a8, a9, a10, a11, a12, a13, a14, a15, a16, a17, a18, a19, a20 => (bif (a1 != a11) then (some false) else (bif (!(a2.toList == a12.toList)) then (some false) else ((laws_eqValS n a3 a13).bind fun r21 => (bif (!r21) then (some false) else ((laws_eqRow n a4 a14).bind fun r22 => (bif (!r22) then (some false) else ((laws_eqDdl n a5 a6 a7 a8 a9 a10 a15 a16 a17 a18 a19 a20).bind fun r23 => (bif (!r23) then (some false) else (some true)))))))))
/-- loop.example/g00462/laws.eqRec -/
def laws_eqRec : Nat → Int → Int → Int → ByteArray → (List (Int × (Int × ByteArray))) → (List (Int × (Int × ByteArray))) → Int → ByteArray → (List (ByteArray × (Int × (Bool × (Bool × (Int × (Int × ByteArray))))))) → (List ByteArray) → ByteArray → ByteArray → Int → Int → Int → ByteArray → (List (Int × (Int × ByteArray))) → (List (Int × (Int × ByteArray))) → Int → ByteArray → (List (ByteArray × (Int × (Bool × (Bool × (Int × (Int × ByteArray))))))) → (List ByteArray) → ByteArray → ByteArray → Option Bool
  | 0, _, _, _, _, _, _, _, _, _, _, _, _, _, _, _, _, _, _, _, _, _, _, _, _ => none
  | n + 1, a1, a2, a3, a4, a5, a6, a7, a8, a9, a10, a11, a12, a13, a14, a15, a16, a17, a18, a19, a20, a21, a22, a23, a24 => (bif (a1 != a13) then (some false) else (bif (a2 != a14) then (some false) else ((laws_eqStmt n a3 a4 a5 a6 a7 a8 a9 a10 a11 a12 a15 a16 a17 a18 a19 a20 a21 a22 a23 a24).bind fun r25 => (bif (!r25) then (some false) else (some true)))))
def laws_eqRecS_L1 (n : Nat) : Nat → List (Int × (Int × (Int × (ByteArray × ((List (Int × (Int × ByteArray))) × ((List (Int × (Int × ByteArray))) × (Int × (ByteArray × ((List (ByteArray × (Int × (Bool × (Bool × (Int × (Int × ByteArray))))))) × ((List ByteArray) × (ByteArray × ByteArray))))))))))) → List (Int × (Int × (Int × (ByteArray × ((List (Int × (Int × ByteArray))) × ((List (Int × (Int × ByteArray))) × (Int × (ByteArray × ((List (ByteArray × (Int × (Bool × (Bool × (Int × (Int × ByteArray))))))) × ((List ByteArray) × (ByteArray × ByteArray))))))))))) → Int → Option Bool
  | 0, _, _, _ => none
  | j + 1, x4, x5, x6 => (bif (decide (x6 < (x4.length : Int))) then (bif (inR x6 x4.length) then (let v7 : (Int × (Int × (Int × (ByteArray × ((List (Int × (Int × ByteArray))) × ((List (Int × (Int × ByteArray))) × (Int × (ByteArray × ((List (ByteArray × (Int × (Bool × (Bool × (Int × (Int × ByteArray))))))) × ((List ByteArray) × (ByteArray × ByteArray))))))))))) := (x4.getD x6.toNat ((0 : Int), ((0 : Int), ((0 : Int), ((⟨#[]⟩ : ByteArray), (([] : (List (Int × (Int × ByteArray)))), (([] : (List (Int × (Int × ByteArray)))), ((0 : Int), ((⟨#[]⟩ : ByteArray), (([] : (List (ByteArray × (Int × (Bool × (Bool × (Int × (Int × ByteArray)))))))), (([] : (List ByteArray)), ((⟨#[]⟩ : ByteArray), (⟨#[]⟩ : ByteArray))))))))))))); (bif (inR x6 x5.length) then (let v8 : (Int × (Int × (Int × (ByteArray × ((List (Int × (Int × ByteArray))) × ((List (Int × (Int × ByteArray))) × (Int × (ByteArray × ((List (ByteArray × (Int × (Bool × (Bool × (Int × (Int × ByteArray))))))) × ((List ByteArray) × (ByteArray × ByteArray))))))))))) := (x5.getD x6.toNat ((0 : Int), ((0 : Int), ((0 : Int), ((⟨#[]⟩ : ByteArray), (([] : (List (Int × (Int × ByteArray)))), (([] : (List (Int × (Int × ByteArray)))), ((0 : Int), ((⟨#[]⟩ : ByteArray), (([] : (List (ByteArray × (Int × (Bool × (Bool × (Int × (Int × ByteArray)))))))), (([] : (List ByteArray)), ((⟨#[]⟩ : ByteArray), (⟨#[]⟩ : ByteArray))))))))))))); ((laws_eqRec n v7.1 v7.2.1 v7.2.2.1 v7.2.2.2.1 v7.2.2.2.2.1 v7.2.2.2.2.2.1 v7.2.2.2.2.2.2.1 v7.2.2.2.2.2.2.2.1 v7.2.2.2.2.2.2.2.2.1 v7.2.2.2.2.2.2.2.2.2.1 v7.2.2.2.2.2.2.2.2.2.2.1 v7.2.2.2.2.2.2.2.2.2.2.2 v8.1 v8.2.1 v8.2.2.1 v8.2.2.2.1 v8.2.2.2.2.1 v8.2.2.2.2.2.1 v8.2.2.2.2.2.2.1 v8.2.2.2.2.2.2.2.1 v8.2.2.2.2.2.2.2.2.1 v8.2.2.2.2.2.2.2.2.2.1 v8.2.2.2.2.2.2.2.2.2.2.1 v8.2.2.2.2.2.2.2.2.2.2.2).bind fun r9 => (bif (!r9) then (some false) else (laws_eqRecS_L1 n j x4 x5 (IntKind.wrap .i64 (x6 + (1 : Int))))))) else none)) else none) else (some true))
/-- loop.example/g00462/laws.eqRecS -/
def laws_eqRecS : Nat → (List (Int × (Int × (Int × (ByteArray × ((List (Int × (Int × ByteArray))) × ((List (Int × (Int × ByteArray))) × (Int × (ByteArray × ((List (ByteArray × (Int × (Bool × (Bool × (Int × (Int × ByteArray))))))) × ((List ByteArray) × (ByteArray × ByteArray)))))))))))) → (List (Int × (Int × (Int × (ByteArray × ((List (Int × (Int × ByteArray))) × ((List (Int × (Int × ByteArray))) × (Int × (ByteArray × ((List (ByteArray × (Int × (Bool × (Bool × (Int × (Int × ByteArray))))))) × ((List ByteArray) × (ByteArray × ByteArray)))))))))))) → Option Bool
  | 0, _, _ => none
  | n + 1, a1, a2 => (let v3 : Bool := ((a1.length : Int) != (a2.length : Int)); (bif v3 then (some false) else (laws_eqRecS_L1 n n a1 a2 (0 : Int))))
/-- loop.example/g00462/laws.FnExactUsed -/
def laws_FnExactUsed : Nat → (List (Int × (Int × (Int × (ByteArray × ((List (Int × (Int × ByteArray))) × ((List (Int × (Int × ByteArray))) × (Int × (ByteArray × ((List (ByteArray × (Int × (Bool × (Bool × (Int × (Int × ByteArray))))))) × ((List ByteArray) × (ByteArray × ByteArray)))))))))))) → Int → Option Bool
  | 0, _, _ => none
  | n + 1, a1, a2 => ((laws_szRecS n a1 (1048576 : Int)).bind fun r3 => (bif (decide (r3 < (0 : Int))) then (some true) else ((laws_toRecS n a1).bind fun r4 => ((spec_Used n r4 a2).bind fun r5 => ((laws_toRecS n a1).bind fun r6 => ((impl_Used n r6 a2).bind fun r7 => (bif (!(r7 == r5)) then (some false) else ((laws_toRecS n a1).bind fun r8 => ((laws_eqRecS n r6 r8).bind fun r9 => (bif (!r9) then (some false) else (some true)))))))))))
end Go.Proofs.Ytaokfhkeplagcaa.Ev

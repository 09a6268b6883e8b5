/- The functions that the law FnExactSameDb reaches, as typed functions. -/
import Derived.Test.YtjopjjmhpadncaaGreatEvCore
set_option linter.all false
namespace Go.Proofs.YtjopjjmhpadncaaGreat.Ev
open Go
/-- loop.example/g00462/laws.szVal -/
def laws_szVal : Nat → Int → Int → ByteArray → Int → Option Int
  | 0, _, _, _, _ => none
  | n + 1, a1, a2, a3, a4 => (let v5 : Int := (IntKind.wrap .i64 (a4 - (a3.size : Int))); (bif (decide (v5 < (0 : Int))) then (some (-1 : Int)) else (some v5)))
/-- loop.example/g00462/laws.szCol -/
def laws_szCol : Nat → ByteArray → Int → Bool → Bool → Int → Int → ByteArray → Int → Option Int
  | 0, _, _, _, _, _, _, _, _ => none
  | n + 1, a1, a2, a3, a4, a5, a6, a7, a8 => (let v9 : Int := (IntKind.wrap .i64 (a8 - (a1.size : Int))); (bif (decide (v9 < (0 : Int))) then (some (-1 : Int)) else ((laws_szVal n a5 a6 a7 v9).bind fun r10 => (bif (decide (r10 < (0 : Int))) then (some (-1 : Int)) else (some r10)))))
def laws_szColS_L1 (n : Nat) : Nat → List (ByteArray × (Int × (Bool × (Bool × (Int × (Int × ByteArray)))))) → Int → Int → Option Int
  | 0, _, _, _ => none
  | j + 1, x4, x5, x6 => (bif (decide (x6 < (x4.length : Int))) then (bif (inR x6 x4.length) then (let v7 : (ByteArray × (Int × (Bool × (Bool × (Int × (Int × ByteArray)))))) := (x4.getD x6.toNat ((⟨#[]⟩ : ByteArray), ((0 : Int), (false, (false, ((0 : Int), ((0 : Int), (⟨#[]⟩ : ByteArray)))))))); ((laws_szCol n v7.1 v7.2.1 v7.2.2.1 v7.2.2.2.1 v7.2.2.2.2.1 v7.2.2.2.2.2.1 v7.2.2.2.2.2.2 x5).bind fun r8 => (bif (decide (r8 < (0 : Int))) then (some (-1 : Int)) else (laws_szColS_L1 n j x4 r8 (IntKind.wrap .i64 (x6 + (1 : Int))))))) else none) else (some x5))
/-- loop.example/g00462/laws.szColS -/
def laws_szColS : Nat → (List (ByteArray × (Int × (Bool × (Bool × (Int × (Int × ByteArray))))))) → Int → Option Int
  | 0, _, _ => none
  | n + 1, a1, a2 => (let v3 : Int := (IntKind.wrap .i64 (a2 - (a1.length : Int))); (bif (decide (v3 < (0 : Int))) then (some (-1 : Int)) else (laws_szColS_L1 n n a1 v3 (0 : Int))))
def laws_szStringS_L1 (n : Nat) : Nat → List ByteArray → Int → Int → Option Int
  | 0, _, _, _ => none
  | j + 1, x4, x5, x6 => (bif (decide (x6 < (x4.length : Int))) then (bif (inR x6 x4.length) then (let v7 : Int := ((x4.getD x6.toNat (⟨#[]⟩ : ByteArray)).size : Int); (let v8 : Bool := (decide ((IntKind.wrap .i64 (x5 - v7)) < (0 : Int))); (bif v8 then (some (-1 : Int)) else (laws_szStringS_L1 n j x4 (IntKind.wrap .i64 (x5 - v7)) (IntKind.wrap .i64 (x6 + (1 : Int))))))) else none) else (some x5))
/-- loop.example/g00462/laws.szStringS -/
def laws_szStringS : Nat → (List ByteArray) → Int → Option Int
  | 0, _, _ => none
  | n + 1, a1, a2 => (let v3 : Int := (IntKind.wrap .i64 (a2 - (a1.length : Int))); (bif (decide (v3 < (0 : Int))) then (some (-1 : Int)) else (laws_szStringS_L1 n n a1 v3 (0 : Int))))
/-- loop.example/g00462/laws.szTable -/
def laws_szTable : Nat → ByteArray → (List (ByteArray × (Int × (Bool × (Bool × (Int × (Int × ByteArray))))))) → (List ByteArray) → Int → Option Int
  | 0, _, _, _, _ => none
  | n + 1, a1, a2, a3, a4 => (let v5 : Int := (IntKind.wrap .i64 (a4 - (a1.size : Int))); (bif (decide (v5 < (0 : Int))) then (some (-1 : Int)) else ((laws_szColS n a2 v5).bind fun r6 => (bif (decide (r6 < (0 : Int))) then (some (-1 : Int)) else ((laws_szStringS n a3 r6).bind fun r7 => (bif (decide (r7 < (0 : Int))) then (some (-1 : Int)) else (some r7)))))))
def laws_szTableS_L1 (n : Nat) : Nat → List (ByteArray × ((List (ByteArray × (Int × (Bool × (Bool × (Int × (Int × ByteArray))))))) × (List ByteArray))) → Int → Int → Option Int
  | 0, _, _, _ => none
  | j + 1, x4, x5, x6 => (bif (decide (x6 < (x4.length : Int))) then (bif (inR x6 x4.length) then (let v7 : (ByteArray × ((List (ByteArray × (Int × (Bool × (Bool × (Int × (Int × ByteArray))))))) × (List ByteArray))) := (x4.getD x6.toNat ((⟨#[]⟩ : ByteArray), (([] : (List (ByteArray × (Int × (Bool × (Bool × (Int × (Int × ByteArray)))))))), ([] : (List ByteArray))))); ((laws_szTable n v7.1 v7.2.1 v7.2.2 x5).bind fun r8 => (bif (decide (r8 < (0 : Int))) then (some (-1 : Int)) else (laws_szTableS_L1 n j x4 r8 (IntKind.wrap .i64 (x6 + (1 : Int))))))) else none) else (some x5))
/-- loop.example/g00462/laws.szTableS -/
def laws_szTableS : Nat → (List (ByteArray × ((List (ByteArray × (Int × (Bool × (Bool × (Int × (Int × ByteArray))))))) × (List ByteArray)))) → Int → Option Int
  | 0, _, _ => none
  | n + 1, a1, a2 => (let v3 : Int := (IntKind.wrap .i64 (a2 - (a1.length : Int))); (bif (decide (v3 < (0 : Int))) then (some (-1 : Int)) else (laws_szTableS_L1 n n a1 v3 (0 : Int))))
/-- loop.example/g00462/laws.szCat -/
def laws_szCat : Nat → (List (ByteArray × ((List (ByteArray × (Int × (Bool × (Bool × (Int × (Int × ByteArray))))))) × (List ByteArray)))) → Int → Option Int
  | 0, _, _ => none
  | n + 1, a1, a2 => ((laws_szTableS n a1 a2).bind fun r3 => (bif (decide (r3 < (0 : Int))) then (some (-1 : Int)) else (some r3)))
def laws_szValS_L1 (n : Nat) : Nat → List (Int × (Int × ByteArray)) → Int → Int → Option Int
  | 0, _, _, _ => none
  | j + 1, x4, x5, x6 => (bif (decide (x6 < (x4.length : Int))) then (bif (inR x6 x4.length) then (let v7 : (Int × (Int × ByteArray)) := (x4.getD x6.toNat ((0 : Int), ((0 : Int), (⟨#[]⟩ : ByteArray)))); ((laws_szVal n v7.1 v7.2.1 v7.2.2 x5).bind fun r8 => (bif (decide (r8 < (0 : Int))) then (some (-1 : Int)) else (laws_szValS_L1 n j x4 r8 (IntKind.wrap .i64 (x6 + (1 : Int))))))) else none) else (some x5))
/-- loop.example/g00462/laws.szValS -/
def laws_szValS : Nat → (List (Int × (Int × ByteArray))) → Int → Option Int
  | 0, _, _ => none
  | n + 1, a1, a2 => (let v3 : Int := (IntKind.wrap .i64 (a2 - (a1.length : Int))); (bif (decide (v3 < (0 : Int))) then (some (-1 : Int)) else (laws_szValS_L1 n n a1 v3 (0 : Int))))
/-- loop.example/g00462/laws.szRow -/
def laws_szRow : Nat → (List (Int × (Int × ByteArray))) → Int → Option Int
  | 0, _, _ => none
  | n + 1, a1, a2 => ((laws_szValS n a1 a2).bind fun r3 => (bif (decide (r3 < (0 : Int))) then (some (-1 : Int)) else (some r3)))
def laws_szRowS_L1 (n : Nat) : Nat → List (List (Int × (Int × ByteArray))) → Int → Int → Option Int
  | 0, _, _, _ => none
  | j + 1, x4, x5, x6 => (bif (decide (x6 < (x4.length : Int))) then (bif (inR x6 x4.length) then (let v7 : (List (Int × (Int × ByteArray))) := (x4.getD x6.toNat ([] : (List (Int × (Int × ByteArray))))); ((laws_szRow n v7 x5).bind fun r8 => (bif (decide (r8 < (0 : Int))) then (some (-1 : Int)) else (laws_szRowS_L1 n j x4 r8 (IntKind.wrap .i64 (x6 + (1 : Int))))))) else none) else (some x5))
/-- loop.example/g00462/laws.szRowS -/
def laws_szRowS : Nat → (List (List (Int × (Int × ByteArray)))) → Int → Option Int
  | 0, _, _ => none
  | n + 1, a1, a2 => (let v3 : Int := (IntKind.wrap .i64 (a2 - (a1.length : Int))); (bif (decide (v3 < (0 : Int))) then (some (-1 : Int)) else (laws_szRowS_L1 n n a1 v3 (0 : Int))))
/-- loop.example/g00462/laws.szRows -/
def laws_szRows : Nat → (List (List (Int × (Int × ByteArray)))) → Int → Option Int
  | 0, _, _ => none
  | n + 1, a1, a2 => ((laws_szRowS n a1 a2).bind fun r3 => (bif (decide (r3 < (0 : Int))) then (some (-1 : Int)) else (some r3)))
def laws_szRowsS_L1 (n : Nat) : Nat → List (List (List (Int × (Int × ByteArray)))) → Int → Int → Option Int
  | 0, _, _, _ => none
  | j + 1, x4, x5, x6 => (bif (decide (x6 < (x4.length : Int))) then (bif (inR x6 x4.length) then (let v7 : (List (List (Int × (Int × ByteArray)))) := (x4.getD x6.toNat ([] : (List (List (Int × (Int × ByteArray)))))); ((laws_szRows n v7 x5).bind fun r8 => (bif (decide (r8 < (0 : Int))) then (some (-1 : Int)) else (laws_szRowsS_L1 n j x4 r8 (IntKind.wrap .i64 (x6 + (1 : Int))))))) else none) else (some x5))
/-- loop.example/g00462/laws.szRowsS -/
def laws_szRowsS : Nat → (List (List (List (Int × (Int × ByteArray))))) → Int → Option Int
  | 0, _, _ => none
  | n + 1, a1, a2 => (let v3 : Int := (IntKind.wrap .i64 (a2 - (a1.length : Int))); (bif (decide (v3 < (0 : Int))) then (some (-1 : Int)) else (laws_szRowsS_L1 n n a1 v3 (0 : Int))))
/-- loop.example/g00462/laws.szDb -/
def laws_szDb : Nat → (List (ByteArray × ((List (ByteArray × (Int × (Bool × (Bool × (Int × (Int × ByteArray))))))) × (List ByteArray)))) → (List (List (List (Int × (Int × ByteArray))))) → Int → Option Int
  | 0, _, _, _ => none
  | n + 1, a1, a2, a3 => ((laws_szCat n a1 a3).bind fun r4 => (bif (decide (r4 < (0 : Int))) then (some (-1 : Int)) else ((laws_szRowsS n a2 r4).bind fun r5 => (bif (decide (r5 < (0 : Int))) then (some (-1 : Int)) else (some r5)))))
/-- loop.example/g00462/laws.toVal -/
def laws_toVal : Nat → Int → Int → ByteArray → Option (Int × (Int × ByteArray))
  | 0, _, _, _ => none
  | n + 1, a1, a2, a3 => (some (a1, (a2, a3)))
/-- loop.example/g00462/laws.toCol -/
def laws_toCol : Nat → ByteArray → Int → Bool → Bool → Int → Int → ByteArray → Option (ByteArray × (Int × (Bool × (Bool × (Int × (Int × ByteArray))))))
  | 0, _, _, _, _, _, _, _ => none
  | n + 1, a1, a2, a3, a4, a5, a6, a7 => ((laws_toVal n a5 a6 a7).bind fun r8 => (some (a1, (a2, (a3, (a4, (r8.1, (r8.2.1, r8.2.2))))))))
def laws_toColS_L1 (n : Nat) : Nat → List (ByteArray × (Int × (Bool × (Bool × (Int × (Int × ByteArray)))))) → Int → List (ByteArray × (Int × (Bool × (Bool × (Int × (Int × ByteArray)))))) → Option (List (ByteArray × (Int × (Bool × (Bool × (Int × (Int × ByteArray)))))))
  | 0, _, _, _ => none
  | j + 1, x4, x5, x6 => (bif (decide (x5 < (x4.length : Int))) then (bif (inR x5 x4.length) then (let v7 : (ByteArray × (Int × (Bool × (Bool × (Int × (Int × ByteArray)))))) := (x4.getD x5.toNat ((⟨#[]⟩ : ByteArray), ((0 : Int), (false, (false, ((0 : Int), ((0 : Int), (⟨#[]⟩ : ByteArray)))))))); ((laws_toCol n v7.1 v7.2.1 v7.2.2.1 v7.2.2.2.1 v7.2.2.2.2.1 v7.2.2.2.2.2.1 v7.2.2.2.2.2.2).bind fun r8 => (bif (inR x5 x6.length) then (let v9 : List (ByteArray × (Int × (Bool × (Bool × (Int × (Int × ByteArray)))))) := (x6.set x5.toNat (r8.1, (r8.2.1, (r8.2.2.1, (r8.2.2.2.1, (r8.2.2.2.2.1, (r8.2.2.2.2.2.1, r8.2.2.2.2.2.2))))))); (laws_toColS_L1 n j x4 (IntKind.wrap .i64 (x5 + (1 : Int))) v9)) else none))) else none) else (some x6))
/-- loop.example/g00462/laws.toColS -/
def laws_toColS : Nat → (List (ByteArray × (Int × (Bool × (Bool × (Int × (Int × ByteArray))))))) → Option (List (ByteArray × (Int × (Bool × (Bool × (Int × (Int × ByteArray)))))))
  | 0, _ => none
  | n + 1, a1 => (let v2 : List (ByteArray × (Int × (Bool × (Bool × (Int × (Int × ByteArray)))))) := ([] : List (ByteArray × (Int × (Bool × (Bool × (Int × (Int × ByteArray))))))); (bif (decide ((a1.length : Int) = (a1.length : Int) ∧ 0 ≤ (a1.length : Int)) && room (a1.length : Int).toNat 64) then (let v3 : List (ByteArray × (Int × (Bool × (Bool × (Int × (Int × ByteArray)))))) := (List.replicate (a1.length : Int).toNat ((⟨#[]⟩ : ByteArray), ((0 : Int), (false, (false, ((0 : Int), ((0 : Int), (⟨#[]⟩ : ByteArray)))))))); (laws_toColS_L1 n n a1 (0 : Int) v3)) else none))
def laws_toStringS_L1 (n : Nat) : Nat → List ByteArray → Int → List ByteArray → Option (List ByteArray)
  | 0, _, _, _ => none
  | j + 1, x3, x4, x5 => (bif (decide (x4 < (x3.length : Int))) then (bif (inR x4 x3.length) then (bif (inR x4 x5.length) then (let v6 : List ByteArray := (x5.set x4.toNat (x3.getD x4.toNat (⟨#[]⟩ : ByteArray))); (laws_toStringS_L1 n j x3 (IntKind.wrap .i64 (x4 + (1 : Int))) v6)) else none) else none) else (some x5))
/-- loop.example/g00462/laws.toStringS -/
def laws_toStringS : Nat → (List ByteArray) → Option (List ByteArray)
  | 0, _ => none
  | n + 1, a1 => (bif (decide ((a1.length : Int) = (a1.length : Int) ∧ 0 ≤ (a1.length : Int)) && room (a1.length : Int).toNat 16) then (let v2 : List ByteArray := (List.replicate (a1.length : Int).toNat (⟨#[]⟩ : ByteArray)); (laws_toStringS_L1 n n a1 (0 : Int) v2)) else none)
/-- loop.example/g00462/laws.toTable -/
def laws_toTable : Nat → ByteArray → (List (ByteArray × (Int × (Bool × (Bool × (Int × (Int × ByteArray))))))) → (List ByteArray) → Option (ByteArray × ((List (ByteArray × (Int × (Bool × (Bool × (Int × (Int × ByteArray))))))) × (List ByteArray)))
  | 0, _, _, _ => none
  | n + 1, a1, a2, a3 => (let v4 : List (ByteArray × (Int × (Bool × (Bool × (Int × (Int × ByteArray)))))) := ([] : List (ByteArray × (Int × (Bool × (Bool × (Int × (Int × ByteArray))))))); (let v5 : List (ByteArray × (Int × (Bool × (Bool × (Int × (Int × ByteArray)))))) := ([] : List (ByteArray × (Int × (Bool × (Bool × (Int × (Int × ByteArray))))))); ((laws_toColS n a2).bind fun r6 => ((laws_toStringS n a3).bind fun r7 => (some (a1, (r6, r7)))))))
def laws_toTableS_L1 (n : Nat) : Nat → List (ByteArray × ((List (ByteArray × (Int × (Bool × (Bool × (Int × (Int × ByteArray))))))) × (List ByteArray))) → Int → List (ByteArray × ((List (ByteArray × (Int × (Bool × (Bool × (Int × (Int × ByteArray))))))) × (List ByteArray))) → Option (List (ByteArray × ((List (ByteArray × (Int × (Bool × (Bool × (Int × (Int × ByteArray))))))) × (List ByteArray))))
  | 0, _, _, _ => none
  | j + 1, x4, x5, x6 => (bif (decide (x5 < (x4.length : Int))) then (bif (inR x5 x4.length) then (let v7 : (ByteArray × ((List (ByteArray × (Int × (Bool × (Bool × (Int × (Int × ByteArray))))))) × (List ByteArray))) := (x4.getD x5.toNat ((⟨#[]⟩ : ByteArray), (([] : (List (ByteArray × (Int × (Bool × (Bool × (Int × (Int × ByteArray)))))))), ([] : (List ByteArray))))); ((laws_toTable n v7.1 v7.2.1 v7.2.2).bind fun r8 => (bif (inR x5 x6.length) then (let v9 : List (ByteArray × ((List (ByteArray × (Int × (Bool × (Bool × (Int × (Int × ByteArray))))))) × (List ByteArray))) := (x6.set x5.toNat (r8.1, (r8.2.1, r8.2.2))); (laws_toTableS_L1 n j x4 (IntKind.wrap .i64 (x5 + (1 : Int))) v9)) else none))) else none) else (some x6))
/-- loop.example/g00462/laws.toTableS -/
def laws_toTableS : Nat → (List (ByteArray × ((List (ByteArray × (Int × (Bool × (Bool × (Int × (Int × ByteArray))))))) × (List ByteArray)))) → Option (List (ByteArray × ((List (ByteArray × (Int × (Bool × (Bool × (Int × (Int × ByteArray))))))) × (List ByteArray))))
  | 0, _ => none
  | n + 1, a1 => (let v2 : List (ByteArray × ((List (ByteArray × (Int × (Bool × (Bool × (Int × (Int × ByteArray))))))) × (List ByteArray))) := ([] : List (ByteArray × ((List (ByteArray × (Int × (Bool × (Bool × (Int × (Int × ByteArray))))))) × (List ByteArray)))); (bif (decide ((a1.length : Int) = (a1.length : Int) ∧ 0 ≤ (a1.length : Int)) && room (a1.length : Int).toNat 64) then (let v3 : List (ByteArray × ((List (ByteArray × (Int × (Bool × (Bool × (Int × (Int × ByteArray))))))) × (List ByteArray))) := (List.replicate (a1.length : Int).toNat ((⟨#[]⟩ : ByteArray), (([] : (List (ByteArray × (Int × (Bool × (Bool × (Int × (Int × ByteArray)))))))), ([] : (List ByteArray))))); (laws_toTableS_L1 n n a1 (0 : Int) v3)) else none))
/-- loop.example/g00462/laws.toCat -/
def laws_toCat : Nat → (List (ByteArray × ((List (ByteArray × (Int × (Bool × (Bool × (Int × (Int × ByteArray))))))) × (List ByteArray)))) → Option (List (ByteArray × ((List (ByteArray × (Int × (Bool × (Bool × (Int × (Int × ByteArray))))))) × (List ByteArray))))
  | 0, _ => none
  | n + 1, a1 => (let v2 : List (ByteArray × ((List (ByteArray × (Int × (Bool × (Bool × (Int × (Int × ByteArray))))))) × (List ByteArray))) := ([] : List (ByteArray × ((List (ByteArray × (Int × (Bool × (Bool × (Int × (Int × ByteArray))))))) × (List ByteArray)))); (let v3 : List (ByteArray × ((List (ByteArray × (Int × (Bool × (Bool × (Int × (Int × ByteArray))))))) × (List ByteArray))) := ([] : List (ByteArray × ((List (ByteArray × (Int × (Bool × (Bool × (Int × (Int × ByteArray))))))) × (List ByteArray)))); ((laws_toTableS n a1).bind fun r4 => (some r4))))
def laws_toValS_L1 (n : Nat) : Nat → List (Int × (Int × ByteArray)) → Int → List (Int × (Int × ByteArray)) → Option (List (Int × (Int × ByteArray)))
  | 0, _, _, _ => none
  | j + 1, x3, x4, x5 => (bif (decide (x4 < (x3.length : Int))) then (bif (inR x4 x3.length) then (let v6 : (Int × (Int × ByteArray)) := (x3.getD x4.toNat ((0 : Int), ((0 : Int), (⟨#[]⟩ : ByteArray)))); ((laws_toVal n v6.1 v6.2.1 v6.2.2).bind fun r7 => (bif (inR x4 x5.length) then (let v8 : List (Int × (Int × ByteArray)) := (x5.set x4.toNat (r7.1, (r7.2.1, r7.2.2))); (laws_toValS_L1 n j x3 (IntKind.wrap .i64 (x4 + (1 : Int))) v8)) else none))) else none) else (some x5))
/-- loop.example/g00462/laws.toValS -/
def laws_toValS : Nat → (List (Int × (Int × ByteArray))) → Option (List (Int × (Int × ByteArray)))
  | 0, _ => none
  | n + 1, a1 => (bif (decide ((a1.length : Int) = (a1.length : Int) ∧ 0 ≤ (a1.length : Int)) && room (a1.length : Int).toNat 32) then (let v2 : List (Int × (Int × ByteArray)) := (List.replicate (a1.length : Int).toNat ((0 : Int), ((0 : Int), (⟨#[]⟩ : ByteArray)))); (laws_toValS_L1 n n a1 (0 : Int) v2)) else none)
/-- loop.example/g00462/laws.toRow -/
def laws_toRow : Nat → (List (Int × (Int × ByteArray))) → Option (List (Int × (Int × ByteArray)))
  | 0, _ => none
  | n + 1, a1 => ((laws_toValS n a1).bind fun r2 => (some r2))
def laws_toRowS_L1 (n : Nat) : Nat → List (List (Int × (Int × ByteArray))) → Int → List (List (Int × (Int × ByteArray))) → Option (List (List (Int × (Int × ByteArray))))
  | 0, _, _, _ => none
  | j + 1, x4, x5, x6 => (bif (decide (x5 < (x4.length : Int))) then (bif (inR x5 x4.length) then (let v7 : (List (Int × (Int × ByteArray))) := (x4.getD x5.toNat ([] : (List (Int × (Int × ByteArray))))); ((laws_toRow n v7).bind fun r8 => (bif (inR x5 x6.length) then (laws_toRowS_L1 n j x4 (IntKind.wrap .i64 (x5 + (1 : Int))) (x6.set x5.toNat r8)) else none))) else none) else (some x6))
/-- loop.example/g00462/laws.toRowS -/
def laws_toRowS : Nat → (List (List (Int × (Int × ByteArray)))) → Option (List (List (Int × (Int × ByteArray))))
  | 0, _ => none
  | n + 1, a1 => (let v2 : List (List (Int × (Int × ByteArray))) := ([] : List (List (Int × (Int × ByteArray)))); (bif (decide ((a1.length : Int) = (a1.length : Int) ∧ 0 ≤ (a1.length : Int)) && room (a1.length : Int).toNat 24) then (let v3 : List (List (Int × (Int × ByteArray))) := (List.replicate (a1.length : Int).toNat ([] : (List (Int × (Int × ByteArray))))); (laws_toRowS_L1 n n a1 (0 : Int) v3)) else none))
/-- loop.example/g00462/laws.toRows -/
def laws_toRows : Nat → (List (List (Int × (Int × ByteArray)))) → Option (List (List (Int × (Int × ByteArray))))
  | 0, _ => none
  | n + 1, a1 => (let v2 : List (List (Int × (Int × ByteArray))) := ([] : List (List (Int × (Int × ByteArray)))); (let v3 : List (List (Int × (Int × ByteArray))) := ([] : List (List (Int × (Int × ByteArray)))); ((laws_toRowS n a1).bind fun r4 => (some r4))))
def laws_toRowsS_L1 (n : Nat) : Nat → List (List (List (Int × (Int × ByteArray)))) → Int → List (List (List (Int × (Int × ByteArray)))) → Option (List (List (List (Int × (Int × ByteArray)))))
  | 0, _, _, _ => none
  | j + 1, x4, x5, x6 => (bif (decide (x5 < (x4.length : Int))) then (bif (inR x5 x4.length) then (let v7 : (List (List (Int × (Int × ByteArray)))) := (x4.getD x5.toNat ([] : (List (List (Int × (Int × ByteArray)))))); ((laws_toRows n v7).bind fun r8 => (bif (inR x5 x6.length) then (laws_toRowsS_L1 n j x4 (IntKind.wrap .i64 (x5 + (1 : Int))) (x6.set x5.toNat r8)) else none))) else none) else (some x6))
/-- loop.example/g00462/laws.toRowsS -/
def laws_toRowsS : Nat → (List (List (List (Int × (Int × ByteArray))))) → Option (List (List (List (Int × (Int × ByteArray)))))
  | 0, _ => none
  | n + 1, a1 => (let v2 : List (List (List (Int × (Int × ByteArray)))) := ([] : List (List (List (Int × (Int × ByteArray))))); (bif (decide ((a1.length : Int) = (a1.length : Int) ∧ 0 ≤ (a1.length : Int)) && room (a1.length : Int).toNat 24) then (let v3 : List (List (List (Int × (Int × ByteArray)))) := (List.replicate (a1.length : Int).toNat ([] : (List (List (Int × (Int × ByteArray)))))); (laws_toRowsS_L1 n n a1 (0 : Int) v3)) else none))
/-- loop.example/g00462/laws.toDb -/
def laws_toDb : Nat → (List (ByteArray × ((List (ByteArray × (Int × (Bool × (Bool × (Int × (Int × ByteArray))))))) × (List ByteArray)))) → (List (List (List (Int × (Int × ByteArray))))) → Option ((List (ByteArray × ((List (ByteArray × (Int × (Bool × (Bool × (Int × (Int × ByteArray))))))) × (List ByteArray)))) × (List (List (List (Int × (Int × ByteArray))))))
  | 0, _, _ => none
  | n + 1, a1, a2 => (let v3 : List (ByteArray × ((List (ByteArray × (Int × (Bool × (Bool × (Int × (Int × ByteArray))))))) × (List ByteArray))) := ([] : List (ByteArray × ((List (ByteArray × (Int × (Bool × (Bool × (Int × (Int × ByteArray))))))) × (List ByteArray)))); let v4 : List (List (List (Int × (Int × ByteArray)))) := ([] : List (List (List (Int × (Int × ByteArray))))); (let v5 : List (ByteArray × ((List (ByteArray × (Int × (Bool × (Bool × (Int × (Int × ByteArray))))))) × (List ByteArray))) := ([] : List (ByteArray × ((List (ByteArray × (Int × (Bool × (Bool × (Int × (Int × ByteArray))))))) × (List ByteArray)))); let v6 : List (List (List (Int × (Int × ByteArray)))) := ([] : List (List (List (Int × (Int × ByteArray))))); ((laws_toCat n a1).bind fun r7 => ((laws_toRowsS n a2).bind fun r8 => (some (r7, r8))))))
def spec_WordOk_L1 (n : Nat) : Nat → ByteArray → Int → Option Bool
  | 0, _, _ => none
  | j + 1, x2, x3 => (bif (decide (x3 < (x2.size : Int))) then (bif (inR x3 x2.size) then (bif (decide ((bt x2 x3) < (97 : Int))) then (some false) else (bif (inR x3 x2.size) then (bif (decide ((122 : Int) < (bt x2 x3))) then (some false) else (spec_WordOk_L1 n j x2 (IntKind.wrap .i64 (x3 + (1 : Int))))) else none)) else none) else (bif (decide ((1 : Int) ≤ (x2.size : Int))) then (some (decide ((x2.size : Int) ≤ (8 : Int)))) else (some false)))
/-- loop.example/g00462/spec.WordOk -/
def spec_WordOk : Nat → ByteArray → Option Bool
  | 0, _ => none
  | n + 1, a1 => (spec_WordOk_L1 n n a1 (0 : Int))
/-- loop.example/g00462/spec.l01Num -/
def spec_l01Num : Nat → Int → Option Bool
  | 0, _ => none
  | n + 1, a1 => (bif (decide ((-1099511627775 : Int) ≤ a1)) then (some (decide (a1 ≤ (1099511627775 : Int)))) else (some false))
/-- loop.example/g00462/spec.ValOk -/
def spec_ValOk : Nat → Int → Int → ByteArray → Option Bool
  | 0, _, _, _ => none
  | n + 1, a1, a2, a3 => (bif (a1 == (0 : Int)) then (bif (a2 == (0 : Int)) then (let v4 : Bool := (a3.toList == (⟨#[]⟩ : ByteArray).toList); (some v4)) else (some false)) else (bif (a1 == (1 : Int)) then (bif (a2 == (0 : Int)) then (let v5 : Bool := (a3.toList == (⟨#[]⟩ : ByteArray).toList); (some v5)) else (bif (a2 == (1 : Int)) then (let v6 : Bool := (a3.toList == (⟨#[]⟩ : ByteArray).toList); (some v6)) else (some false))) else (bif (a1 == (2 : Int)) then ((spec_l01Num n a2).bind fun r7 => (bif r7 then (let v8 : Bool := (a3.toList == (⟨#[]⟩ : ByteArray).toList); (some v8)) else (some false))) else (bif (a1 == (3 : Int)) then (bif (a2 == (0 : Int)) then (some (decide ((a3.size : Int) ≤ (30 : Int)))) else (some false)) else (some false)))))
/-- loop.example/g00462/spec.ColOk -/
def spec_ColOk : Nat → ByteArray → Int → Bool → Bool → Int → Int → ByteArray → Option Bool
  | 0, _, _, _, _, _, _, _ => none
  | n + 1, a1, a2, a3, a4, a5, a6, a7 => (let v8 : Bool := ((a5 == (0 : Int)) && ((a6 == (0 : Int)) && ((a7.toList == (⟨#[]⟩ : ByteArray).toList) && true))); ((spec_WordOk n a1).bind fun r9 => (bif (!r9) then (some false) else (bif (decide (a2 < (1 : Int))) then (some false) else (bif (decide ((3 : Int) < a2)) then (some false) else (bif (!a4) then (some v8) else ((spec_ValOk n a5 a6 a7).bind fun r10 => (bif r10 then (bif v8 then (bif v8 then (some (!a3)) else (some true)) else (bif (a5 == a2) then (bif v8 then (some (!a3)) else (some true)) else (some false))) else (some false)))))))))
def spec_ColAt_L1 (n : Nat) : Nat → ByteArray → List (ByteArray × (Int × (Bool × (Bool × (Int × (Int × ByteArray)))))) → Int → Int → Option Int
  | 0, _, _, _, _ => none
  | j + 1, x5, x6, x7, x8 => (bif (decide (x8 < x7)) then (bif (inR x8 x6.length) then (let v9 : (ByteArray × (Int × (Bool × (Bool × (Int × (Int × ByteArray)))))) := (x6.getD x8.toNat ((⟨#[]⟩ : ByteArray), ((0 : Int), (false, (false, ((0 : Int), ((0 : Int), (⟨#[]⟩ : ByteArray)))))))); (bif (v9.1.toList == x5.toList) then (some x8) else (spec_ColAt_L1 n j x5 x6 x7 (IntKind.wrap .i64 (x8 + (1 : Int)))))) else none) else (some (-1 : Int)))
/-- loop.example/g00462/spec.ColAt -/
def spec_ColAt : Nat → ByteArray → (List (ByteArray × (Int × (Bool × (Bool × (Int × (Int × ByteArray))))))) → (List ByteArray) → ByteArray → Option Int
  | 0, _, _, _, _ => none
  | n + 1, a1, a2, a3, a4 => (spec_ColAt_L1 n n a4 a2 (a2.length : Int) (0 : Int))
def spec_TableOk_L2 (n : Nat) : Nat → Int → List ByteArray → Int → Int → ByteArray → List (ByteArray × (Int × (Bool × (Bool × (Int × (Int × ByteArray)))))) → List ByteArray → Option Bool
  | 0, _, _, _, _, _, _, _ => none
  | j + 1, x17, x18, x19, x20, x21, x22, x23 => (bif (decide (x20 < x19)) then (bif (inR x20 x18.length) then (let v24 : ByteArray := (x18.getD x20.toNat (⟨#[]⟩ : ByteArray)); ((spec_ColAt n x21 x22 x23 v24).bind fun r25 => (bif (decide (r25 ≤ x17)) then (some false) else (bif (inR r25 x22.length) then (let v26 : (ByteArray × (Int × (Bool × (Bool × (Int × (Int × ByteArray)))))) := (x22.getD r25.toNat ((⟨#[]⟩ : ByteArray), ((0 : Int), (false, (false, ((0 : Int), ((0 : Int), (⟨#[]⟩ : ByteArray)))))))); (bif (!v26.2.2.1) then (some false) else (spec_TableOk_L2 n j r25 x18 x19 (IntKind.wrap .i64 (x20 + (1 : Int))) x21 x22 x23))) else none)))) else none) else (some true))
def spec_TableOk_L1 (n : Nat) : Nat → List (ByteArray × (Int × (Bool × (Bool × (Int × (Int × ByteArray)))))) → Int → Int → ByteArray → List (ByteArray × (Int × (Bool × (Bool × (Int × (Int × ByteArray)))))) → List ByteArray → Option Bool
  | 0, _, _, _, _, _, _ => none
  | j + 1, x8, x9, x10, x11, x12, x13 => (bif (decide (x10 < x9)) then (bif (inR x10 x8.length) then (let v14 : (ByteArray × (Int × (Bool × (Bool × (Int × (Int × ByteArray)))))) := (x8.getD x10.toNat ((⟨#[]⟩ : ByteArray), ((0 : Int), (false, (false, ((0 : Int), ((0 : Int), (⟨#[]⟩ : ByteArray)))))))); ((spec_ColOk n v14.1 v14.2.1 v14.2.2.1 v14.2.2.2.1 v14.2.2.2.2.1 v14.2.2.2.2.2.1 v14.2.2.2.2.2.2).bind fun r15 => (bif (!r15) then (some false) else ((spec_ColAt n x11 x12 x13 v14.1).bind fun r16 => (bif (r16 != x10) then (some false) else (spec_TableOk_L1 n j x8 x9 (IntKind.wrap .i64 (x10 + (1 : Int))) x11 x12 x13)))))) else none) else (spec_TableOk_L2 n n (-1 : Int) x13 (x13.length : Int) (0 : Int) x11 x12 x13))
/-- loop.example/g00462/spec.TableOk -/
def spec_TableOk : Nat → ByteArray → (List (ByteArray × (Int × (Bool × (Bool × (Int × (Int × ByteArray))))))) → (List ByteArray) → Option Bool
  | 0, _, _, _ => none
  | n + 1, a1, a2, a3 => ((spec_WordOk n a1).bind fun r4 => (bif (!r4) then (some false) else (let v5 : Bool := (decide ((a2.length : Int) < (1 : Int))); (bif v5 then (some false) else (let v6 : Bool := (decide ((8 : Int) < (a2.length : Int))); (bif v6 then (some false) else (let v7 : Bool := (decide ((a3.length : Int) < (1 : Int))); (bif v7 then (some false) else (spec_TableOk_L1 n n a2 (a2.length : Int) (0 : Int) a1 a2 a3)))))))))
def spec_CatOk_L1 (n : Nat) : Nat → List (ByteArray × ((List (ByteArray × (Int × (Bool × (Bool × (Int × (Int × ByteArray))))))) × (List ByteArray))) → Int → Int → List (ByteArray × ((List (ByteArray × (Int × (Bool × (Bool × (Int × (Int × ByteArray))))))) × (List ByteArray))) → Option Bool
  | 0, _, _, _, _ => none
  | j + 1, x3, x4, x5, x6 => (bif (decide (x5 < x4)) then (bif (inR x5 x3.length) then (let v7 : (ByteArray × ((List (ByteArray × (Int × (Bool × (Bool × (Int × (Int × ByteArray))))))) × (List ByteArray))) := (x3.getD x5.toNat ((⟨#[]⟩ : ByteArray), (([] : (List (ByteArray × (Int × (Bool × (Bool × (Int × (Int × ByteArray)))))))), ([] : (List ByteArray))))); (let v8 : List (ByteArray × (Int × (Bool × (Bool × (Int × (Int × ByteArray)))))) := ([] : List (ByteArray × (Int × (Bool × (Bool × (Int × (Int × ByteArray))))))); ((spec_TableOk n v7.1 v7.2.1 v7.2.2).bind fun r9 => (bif (!r9) then (some false) else (bif (decide ((0 : Int) < x5)) then (bif (inR (IntKind.wrap .i64 (x5 - (1 : Int))) x6.length) then (let v10 : (ByteArray × ((List (ByteArray × (Int × (Bool × (Bool × (Int × (Int × ByteArray))))))) × (List ByteArray))) := (x6.getD (IntKind.wrap .i64 (x5 - (1 : Int))).toNat ((⟨#[]⟩ : ByteArray), (([] : (List (ByteArray × (Int × (Bool × (Bool × (Int × (Int × ByteArray)))))))), ([] : (List ByteArray))))); (let v11 : Bool := (!(Op.bytesLess v10.1.toList v7.1.toList)); (bif v11 then (some false) else (spec_CatOk_L1 n j x3 x4 (IntKind.wrap .i64 (x5 + (1 : Int))) x6)))) else none) else (spec_CatOk_L1 n j x3 x4 (IntKind.wrap .i64 (x5 + (1 : Int))) x6)))))) else none) else (some true))
/-- loop.example/g00462/spec.CatOk -/
def spec_CatOk : Nat → (List (ByteArray × ((List (ByteArray × (Int × (Bool × (Bool × (Int × (Int × ByteArray))))))) × (List ByteArray)))) → Option Bool
  | 0, _ => none
  | n + 1, a1 => (let v2 : Bool := (decide ((6 : Int) < (a1.length : Int))); (bif v2 then (some false) else (spec_CatOk_L1 n n a1 (a1.length : Int) (0 : Int) a1)))
/-- loop.example/g00462/spec.l03Fits -/
def spec_l03Fits : Nat → ByteArray → Int → Bool → Bool → Int → Int → ByteArray → Int → Int → ByteArray → Option Bool
  | 0, _, _, _, _, _, _, _, _, _, _ => none
  | n + 1, a1, a2, a3, a4, a5, a6, a7, a8, a9, a10 => (bif (a8 == (0 : Int)) then ((spec_ValOk n a8 a9 a10).bind fun r11 => (bif r11 then (some (!a3)) else (some false))) else ((spec_ValOk n a8 a9 a10).bind fun r12 => (bif r12 then (some (a8 == a2)) else (some false))))
def spec_RowOk_L1 (n : Nat) : Nat → List (ByteArray × (Int × (Bool × (Bool × (Int × (Int × ByteArray)))))) → Int → Int → List (Int × (Int × ByteArray)) → Option Bool
  | 0, _, _, _, _ => none
  | j + 1, x7, x8, x9, x10 => (bif (decide (x9 < x8)) then (bif (inR x9 x7.length) then (let v11 : (ByteArray × (Int × (Bool × (Bool × (Int × (Int × ByteArray)))))) := (x7.getD x9.toNat ((⟨#[]⟩ : ByteArray), ((0 : Int), (false, (false, ((0 : Int), ((0 : Int), (⟨#[]⟩ : ByteArray)))))))); (bif (inR x9 x10.length) then (let v12 : (Int × (Int × ByteArray)) := (x10.getD x9.toNat ((0 : Int), ((0 : Int), (⟨#[]⟩ : ByteArray)))); ((spec_l03Fits n v11.1 v11.2.1 v11.2.2.1 v11.2.2.2.1 v11.2.2.2.2.1 v11.2.2.2.2.2.1 v11.2.2.2.2.2.2 v12.1 v12.2.1 v12.2.2).bind fun r13 => (bif (!r13) then (some false) else (spec_RowOk_L1 n j x7 x8 (IntKind.wrap .i64 (x9 + (1 : Int))) x10)))) else none)) else none) else (some true))
/-- loop.example/g00462/spec.RowOk -/
def spec_RowOk : Nat → ByteArray → (List (ByteArray × (Int × (Bool × (Bool × (Int × (Int × ByteArray))))))) → (List ByteArray) → (List (Int × (Int × ByteArray))) → Option Bool
  | 0, _, _, _, _ => none
  | n + 1, a1, a2, a3, a4 => ((spec_TableOk n a1 a2 a3).bind fun r5 => (bif (!r5) then (some false) else (let v6 : Bool := ((a4.length : Int) != (a2.length : Int)); (bif v6 then (some false) else (spec_RowOk_L1 n n a2 (a2.length : Int) (0 : Int) a4)))))
def spec_l03Key_L1 (n : Nat) : Nat → List ByteArray → Int → Int → ByteArray → List (ByteArray × (Int × (Bool × (Bool × (Int × (Int × ByteArray)))))) → List ByteArray → List (Int × (Int × ByteArray)) → List (Int × (Int × ByteArray)) → Option (List (Int × (Int × ByteArray)))
  | 0, _, _, _, _, _, _, _, _ => none
  | j + 1, x5, x6, x7, x8, x9, x10, x11, x12 => (bif (decide (x7 < x6)) then (bif (inR x7 x5.length) then ((spec_ColAt n x8 x9 x10 (x5.getD x7.toNat (⟨#[]⟩ : ByteArray))).bind fun r13 => (bif (inR r13 x11.length) then (let v14 : (Int × (Int × ByteArray)) := (x11.getD r13.toNat ((0 : Int), ((0 : Int), (⟨#[]⟩ : ByteArray)))); (let v15 : List (Int × (Int × ByteArray)) := ([(v14.1, (v14.2.1, v14.2.2))] : List (Int × (Int × ByteArray))); (bif (room (x12.length + v15.length) 32) then (spec_l03Key_L1 n j x5 x6 (IntKind.wrap .i64 (x7 + (1 : Int))) x8 x9 x10 x11 (x12 ++ v15)) else none))) else none)) else none) else (some x12))
/-- loop.example/g00462/spec.l03Key -/
def spec_l03Key : Nat → ByteArray → (List (ByteArray × (Int × (Bool × (Bool × (Int × (Int × ByteArray))))))) → (List ByteArray) → (List (Int × (Int × ByteArray))) → Option (List (Int × (Int × ByteArray)))
  | 0, _, _, _, _ => none
  | n + 1, a1, a2, a3, a4 => (spec_l03Key_L1 n n a3 (a3.length : Int) (0 : Int) a1 a2 a3 a4 ([] : List (Int × (Int × ByteArray))))
/-- loop.example/g00462/spec.ValLess -/
def spec_ValLess : Nat → Int → Int → ByteArray → Int → Int → ByteArray → Option Bool
  | 0, _, _, _, _, _, _ => none
  | n + 1, a1, a2, a3, a4, a5, a6 => ((spec_ValOk n a1 a2 a3).bind fun r7 => (bif (!r7) then (some false) else ((spec_ValOk n a4 a5 a6).bind fun r8 => (bif (!r8) then (some false) else (bif (a1 != a4) then (some (decide (a1 < a4))) else (bif (decide (a2 < a5)) then (some true) else (bif (a2 == a5) then (some (Op.bytesLess a3.toList a6.toList)) else (some false))))))))
def spec_KeyLess_L1 (n : Nat) : Nat → List (Int × (Int × ByteArray)) → List (Int × (Int × ByteArray)) → Int → Option Bool
  | 0, _, _, _ => none
  | j + 1, x3, x4, x5 => (bif (decide (x5 < (x3.length : Int))) then (bif (decide (x5 < (x4.length : Int))) then (bif (inR x5 x3.length) then (let v6 : (Int × (Int × ByteArray)) := (x3.getD x5.toNat ((0 : Int), ((0 : Int), (⟨#[]⟩ : ByteArray)))); (bif (inR x5 x4.length) then (let v7 : (Int × (Int × ByteArray)) := (x4.getD x5.toNat ((0 : Int), ((0 : Int), (⟨#[]⟩ : ByteArray)))); (let v8 : Bool := (!((v6.1 == v7.1) && ((v6.2.1 == v7.2.1) && ((v6.2.2.toList == v7.2.2.toList) && true)))); (bif v8 then (bif (inR x5 x3.length) then (let v9 : (Int × (Int × ByteArray)) := (x3.getD x5.toNat ((0 : Int), ((0 : Int), (⟨#[]⟩ : ByteArray)))); (bif (inR x5 x4.length) then (let v10 : (Int × (Int × ByteArray)) := (x4.getD x5.toNat ((0 : Int), ((0 : Int), (⟨#[]⟩ : ByteArray)))); ((spec_ValLess n v9.1 v9.2.1 v9.2.2 v10.1 v10.2.1 v10.2.2).bind fun r11 => (some r11))) else none)) else none) else (spec_KeyLess_L1 n j x3 x4 (IntKind.wrap .i64 (x5 + (1 : Int))))))) else none)) else none) else (let v12 : Bool := (decide ((x3.length : Int) < (x4.length : Int))); (some v12))) else (let v13 : Bool := (decide ((x3.length : Int) < (x4.length : Int))); (some v13)))
/-- loop.example/g00462/spec.KeyLess -/
def spec_KeyLess : Nat → (List (Int × (Int × ByteArray))) → (List (Int × (Int × ByteArray))) → Option Bool
  | 0, _, _ => none
  | n + 1, a1, a2 => (spec_KeyLess_L1 n n a1 a2 (0 : Int))
def spec_RowsOk_L1 (n : Nat) : Nat → List (List (Int × (Int × ByteArray))) → List (List (Int × (Int × ByteArray))) → Int → Int → ByteArray → List (ByteArray × (Int × (Bool × (Bool × (Int × (Int × ByteArray)))))) → List ByteArray → Option Bool
  | 0, _, _, _, _, _, _, _ => none
  | j + 1, x7, x8, x9, x10, x11, x12, x13 => (bif (decide (x10 < x9)) then (bif (inR x10 x8.length) then (let v14 : (List (Int × (Int × ByteArray))) := (x8.getD x10.toNat ([] : (List (Int × (Int × ByteArray))))); ((spec_RowOk n x11 x12 x13 v14).bind fun r15 => (bif (!r15) then (some false) else (bif (decide ((0 : Int) < x10)) then (bif (inR (IntKind.wrap .i64 (x10 - (1 : Int))) x7.length) then (let v16 : (List (Int × (Int × ByteArray))) := (x7.getD (IntKind.wrap .i64 (x10 - (1 : Int))).toNat ([] : (List (Int × (Int × ByteArray))))); ((spec_l03Key n x11 x12 x13 v16).bind fun r17 => ((spec_l03Key n x11 x12 x13 v14).bind fun r18 => ((spec_KeyLess n r17 r18).bind fun r19 => (bif (!r19) then (some false) else (spec_RowsOk_L1 n j x7 x8 x9 (IntKind.wrap .i64 (x10 + (1 : Int))) x11 x12 x13)))))) else none) else (spec_RowsOk_L1 n j x7 x8 x9 (IntKind.wrap .i64 (x10 + (1 : Int))) x11 x12 x13))))) else none) else (some true))
/-- loop.example/g00462/spec.RowsOk -/
def spec_RowsOk : Nat → ByteArray → (List (ByteArray × (Int × (Bool × (Bool × (Int × (Int × ByteArray))))))) → (List ByteArray) → (List (List (Int × (Int × ByteArray)))) → Option Bool
  | 0, _, _, _, _ => none
  | n + 1, a1, a2, a3, a4 => ((spec_TableOk n a1 a2 a3).bind fun r5 => (bif (!r5) then (some false) else (let v6 : Bool := (decide ((60 : Int) < (a4.length : Int))); (bif v6 then (some false) else (spec_RowsOk_L1 n n a4 a4 (a4.length : Int) (0 : Int) a1 a2 a3)))))
def spec_DbOk_L1 (n : Nat) : Nat → List (ByteArray × ((List (ByteArray × (Int × (Bool × (Bool × (Int × (Int × ByteArray))))))) × (List ByteArray))) → Int → Int → List (ByteArray × ((List (ByteArray × (Int × (Bool × (Bool × (Int × (Int × ByteArray))))))) × (List ByteArray))) → List (List (List (Int × (Int × ByteArray)))) → Option Bool
  | 0, _, _, _, _, _ => none
  | j + 1, x5, x6, x7, x8, x9 => (bif (decide (x7 < x6)) then (bif (inR x7 x5.length) then (let v10 : (ByteArray × ((List (ByteArray × (Int × (Bool × (Bool × (Int × (Int × ByteArray))))))) × (List ByteArray))) := (x5.getD x7.toNat ((⟨#[]⟩ : ByteArray), (([] : (List (ByteArray × (Int × (Bool × (Bool × (Int × (Int × ByteArray)))))))), ([] : (List ByteArray))))); (let v11 : List (ByteArray × (Int × (Bool × (Bool × (Int × (Int × ByteArray)))))) := ([] : List (ByteArray × (Int × (Bool × (Bool × (Int × (Int × ByteArray))))))); (bif (inR x7 x9.length) then (let v12 : (List (List (Int × (Int × ByteArray)))) := (x9.getD x7.toNat ([] : (List (List (Int × (Int × ByteArray)))))); ((spec_RowsOk n v10.1 v10.2.1 v10.2.2 v12).bind fun r13 => (bif (!r13) then (some false) else (spec_DbOk_L1 n j x5 x6 (IntKind.wrap .i64 (x7 + (1 : Int))) x8 x9)))) else none))) else none) else (some true))
/-- loop.example/g00462/spec.DbOk -/
def spec_DbOk : Nat → (List (ByteArray × ((List (ByteArray × (Int × (Bool × (Bool × (Int × (Int × ByteArray))))))) × (List ByteArray)))) → (List (List (List (Int × (Int × ByteArray))))) → Option Bool
  | 0, _, _ => none
  | n + 1, a1, a2 => ((spec_CatOk n a1).bind fun r3 => (bif (!r3) then (some false) else (let v4 : Bool := ((a2.length : Int) != (a1.length : Int)); (bif v4 then (some false) else (spec_DbOk_L1 n n a1 (a1.length : Int) (0 : Int) a1 a2)))))
def spec_SameTable_L2 (n : Nat) : Nat → Int → Int → ByteArray → List (ByteArray × (Int × (Bool × (Bool × (Int × (Int × ByteArray)))))) → List ByteArray → ByteArray → List (ByteArray × (Int × (Bool × (Bool × (Int × (Int × ByteArray)))))) → List ByteArray → Option Bool
  | 0, _, _, _, _, _, _, _, _ => none
  | j + 1, x22, x23, x24, x25, x26, x27, x28, x29 => (bif (decide (x23 < x22)) then (bif (inR x23 x26.length) then (let v30 : ByteArray := (x26.getD x23.toNat (⟨#[]⟩ : ByteArray)); (bif (inR x23 x29.length) then (let v31 : ByteArray := (x29.getD x23.toNat (⟨#[]⟩ : ByteArray)); (bif (!(v30.toList == v31.toList)) then (some false) else (spec_SameTable_L2 n j x22 (IntKind.wrap .i64 (x23 + (1 : Int))) x24 x25 x26 x27 x28 x29))) else none)) else none) else (some true))
def spec_SameTable_L1 (n : Nat) : Nat → Int → Int → ByteArray → List (ByteArray × (Int × (Bool × (Bool × (Int × (Int × ByteArray)))))) → List ByteArray → ByteArray → List (ByteArray × (Int × (Bool × (Bool × (Int × (Int × ByteArray)))))) → List ByteArray → Option Bool
  | 0, _, _, _, _, _, _, _, _ => none
  | j + 1, x11, x12, x13, x14, x15, x16, x17, x18 => (bif (decide (x12 < x11)) then (bif (inR x12 x14.length) then (let v19 : (ByteArray × (Int × (Bool × (Bool × (Int × (Int × ByteArray)))))) := (x14.getD x12.toNat ((⟨#[]⟩ : ByteArray), ((0 : Int), (false, (false, ((0 : Int), ((0 : Int), (⟨#[]⟩ : ByteArray)))))))); (bif (inR x12 x17.length) then (let v20 : (ByteArray × (Int × (Bool × (Bool × (Int × (Int × ByteArray)))))) := (x17.getD x12.toNat ((⟨#[]⟩ : ByteArray), ((0 : Int), (false, (false, ((0 : Int), ((0 : Int), (⟨#[]⟩ : ByteArray)))))))); (let v21 : Bool := (!((v19.1.toList == v20.1.toList) && ((v19.2.1 == v20.2.1) && ((v19.2.2.1 == v20.2.2.1) && ((v19.2.2.2.1 == v20.2.2.2.1) && ((v19.2.2.2.2.1 == v20.2.2.2.2.1) && ((v19.2.2.2.2.2.1 == v20.2.2.2.2.2.1) && ((v19.2.2.2.2.2.2.toList == v20.2.2.2.2.2.2.toList) && true)))))))); (bif v21 then (some false) else (spec_SameTable_L1 n j x11 (IntKind.wrap .i64 (x12 + (1 : Int))) x13 x14 x15 x16 x17 x18)))) else none)) else none) else (spec_SameTable_L2 n n (x15.length : Int) (0 : Int) x13 x14 x15 x16 x17 x18))
/-- loop.example/g00462/spec.SameTable -/
def spec_SameTable : Nat → ByteArray → (List (ByteArray × (Int × (Bool × (Bool × (Int × (Int × ByteArray))))))) → (List ByteArray) → ByteArray → (List (ByteArray × (Int × (Bool × (Bool × (Int × (Int × ByteArray))))))) → (List ByteArray) → Option Bool
  | 0, _, _, _, _, _, _ => none
  | n + 1, a1, a2, a3, a4, a5, a6 => ((spec_TableOk n a1 a2 a3).bind fun r7 => (bif (!r7) then (some false) else ((spec_TableOk n a4 a5 a6).bind fun r8 => (bif (!r8) then (some false) else (bif (!(a1.toList == a4.toList)) then (some false) else (let v9 : Bool := ((a2.length : Int) != (a5.length : Int)); (bif v9 then (some false) else (let v10 : Bool := ((a3.length : Int) != (a6.length : Int)); (bif v10 then (some false) else (spec_SameTable_L1 n n (a2.length : Int) (0 : Int) a1 a2 a3 a4 a5 a6))))))))))
def spec_l03SameVals_L1 (n : Nat) : Nat → List (Int × (Int × ByteArray)) → List (Int × (Int × ByteArray)) → Int → Int → Option Bool
  | 0, _, _, _, _ => none
  | j + 1, x4, x5, x6, x7 => (bif (decide (x7 < x6)) then (bif (inR x7 x4.length) then (let v8 : (Int × (Int × ByteArray)) := (x4.getD x7.toNat ((0 : Int), ((0 : Int), (⟨#[]⟩ : ByteArray)))); (bif (inR x7 x5.length) then (let v9 : (Int × (Int × ByteArray)) := (x5.getD x7.toNat ((0 : Int), ((0 : Int), (⟨#[]⟩ : ByteArray)))); (let v10 : Bool := (!((v8.1 == v9.1) && ((v8.2.1 == v9.2.1) && ((v8.2.2.toList == v9.2.2.toList) && true)))); (bif v10 then (some false) else (spec_l03SameVals_L1 n j x4 x5 x6 (IntKind.wrap .i64 (x7 + (1 : Int))))))) else none)) else none) else (some true))
/-- loop.example/g00462/spec.l03SameVals -/
def spec_l03SameVals : Nat → (List (Int × (Int × ByteArray))) → (List (Int × (Int × ByteArray))) → Option Bool
  | 0, _, _ => none
  | n + 1, a1, a2 => (let v3 : Bool := ((a1.length : Int) != (a2.length : Int)); (bif v3 then (some false) else (spec_l03SameVals_L1 n n a1 a2 (a1.length : Int) (0 : Int))))
def spec_SameRows_L1 (n : Nat) : Nat → List (List (Int × (Int × ByteArray))) → List (List (Int × (Int × ByteArray))) → Int → Int → Option Bool
  | 0, _, _, _, _ => none
  | j + 1, x4, x5, x6, x7 => (bif (decide (x7 < x6)) then (bif (inR x7 x4.length) then (let v8 : (List (Int × (Int × ByteArray))) := (x4.getD x7.toNat ([] : (List (Int × (Int × ByteArray))))); (bif (inR x7 x5.length) then (let v9 : (List (Int × (Int × ByteArray))) := (x5.getD x7.toNat ([] : (List (Int × (Int × ByteArray))))); ((spec_l03SameVals n v8 v9).bind fun r10 => (bif (!r10) then (some false) else (spec_SameRows_L1 n j x4 x5 x6 (IntKind.wrap .i64 (x7 + (1 : Int))))))) else none)) else none) else (some true))
/-- loop.example/g00462/spec.SameRows -/
def spec_SameRows : Nat → (List (List (Int × (Int × ByteArray)))) → (List (List (Int × (Int × ByteArray)))) → Option Bool
  | 0, _, _ => none
  | n + 1, a1, a2 => (let v3 : Bool := ((a1.length : Int) != (a2.length : Int)); (bif v3 then (some false) else (spec_SameRows_L1 n n a1 a2 (a1.length : Int) (0 : Int))))
def spec_SameDb_L1 (n : Nat) : Nat → Int → Int → List (ByteArray × ((List (ByteArray × (Int × (Bool × (Bool × (Int × (Int × ByteArray))))))) × (List ByteArray))) → List (List (List (Int × (Int × ByteArray)))) → List (ByteArray × ((List (ByteArray × (Int × (Bool × (Bool × (Int × (Int × ByteArray))))))) × (List ByteArray))) → List (List (List (Int × (Int × ByteArray)))) → Option Bool
  | 0, _, _, _, _, _, _ => none
  | j + 1, x8, x9, x10, x11, x12, x13 => (bif (decide (x9 < x8)) then (bif (inR x9 x10.length) then (let v14 : (ByteArray × ((List (ByteArray × (Int × (Bool × (Bool × (Int × (Int × ByteArray))))))) × (List ByteArray))) := (x10.getD x9.toNat ((⟨#[]⟩ : ByteArray), (([] : (List (ByteArray × (Int × (Bool × (Bool × (Int × (Int × ByteArray)))))))), ([] : (List ByteArray))))); (bif (inR x9 x12.length) then (let v15 : (ByteArray × ((List (ByteArray × (Int × (Bool × (Bool × (Int × (Int × ByteArray))))))) × (List ByteArray))) := (x12.getD x9.toNat ((⟨#[]⟩ : ByteArray), (([] : (List (ByteArray × (Int × (Bool × (Bool × (Int × (Int × ByteArray)))))))), ([] : (List ByteArray))))); ((spec_SameTable n v14.1 v14.2.1 v14.2.2 v15.1 v15.2.1 v15.2.2).bind fun r16 => (bif (!r16) then (some false) else (bif (inR x9 x11.length) then (let v17 : (List (List (Int × (Int × ByteArray)))) := (x11.getD x9.toNat ([] : (List (List (Int × (Int × ByteArray)))))); (bif (inR x9 x13.length) then (let v18 : (List (List (Int × (Int × ByteArray)))) := (x13.getD x9.toNat ([] : (List (List (Int × (Int × ByteArray)))))); ((spec_SameRows n v17 v18).bind fun r19 => (bif (!r19) then (some false) else (spec_SameDb_L1 n j x8 (IntKind.wrap .i64 (x9 + (1 : Int))) x10 x11 x12 x13)))) else none)) else none)))) else none)) else none) else (some true))
/-- loop.example/g00462/spec.SameDb -/
def spec_SameDb : Nat → (List (ByteArray × ((List (ByteArray × (Int × (Bool × (Bool × (Int × (Int × ByteArray))))))) × (List ByteArray)))) → (List (List (List (Int × (Int × ByteArray))))) → (List (ByteArray × ((List (ByteArray × (Int × (Bool × (Bool × (Int × (Int × ByteArray))))))) × (List ByteArray)))) → (List (List (List (Int × (Int × ByteArray))))) → Option Bool
  | 0, _, _, _, _ => none
  | n + 1, a1, a2, a3, a4 => ((spec_DbOk n a1 a2).bind fun r5 => (bif (!r5) then (some false) else ((spec_DbOk n a3 a4).bind fun r6 => (bif (!r6) then (some false) else (let v7 : Bool := ((a2.length : Int) != (a4.length : Int)); (bif v7 then (some false) else (spec_SameDb_L1 n n (a2.length : Int) (0 : Int) a1 a2 a3 a4)))))))
/-- loop.example/g00462/impl.within -/
def impl_within : Nat → Int → Int → Int → Option Bool
  | 0, _, _, _ => none
  | n + 1, a1, a2, a3 => (bif (decide (a2 ≤ a1)) then (some (decide (a1 ≤ a3))) else (some false))
def impl_WordOk_L1 (n : Nat) : Nat → ByteArray → Int → Option Bool
  | 0, _, _ => none
  | j + 1, x2, x3 => (bif (decide (x3 < (x2.size : Int))) then (bif (inR x3 x2.size) then (bif (decide ((bt x2 x3) < (97 : Int))) then (some false) else (bif (inR x3 x2.size) then (bif (decide ((122 : Int) < (bt x2 x3))) then (some false) else (impl_WordOk_L1 n j x2 (IntKind.wrap .i64 (x3 + (1 : Int))))) else none)) else none) else ((impl_within n (x2.size : Int) (1 : Int) (8 : Int)).bind fun r4 => (some r4)))
/-- loop.example/g00462/impl.WordOk -/
def impl_WordOk : Nat → ByteArray → Option Bool
  | 0, _ => none
  | n + 1, a1 => (impl_WordOk_L1 n n a1 (0 : Int))
/-- loop.example/g00462/impl.ValOk -/
def impl_ValOk : Nat → Int → Int → ByteArray → Option Bool
  | 0, _, _, _ => none
  | n + 1, a1, a2, a3 => (bif (a1 == (0 : Int)) then (let v4 : Bool := ((a1 == (0 : Int)) && ((a2 == (0 : Int)) && ((a3.toList == (⟨#[]⟩ : ByteArray).toList) && true))); (some v4)) else (bif (a1 == (1 : Int)) then ((impl_within n a2 (0 : Int) (1 : Int)).bind fun r5 => (bif r5 then (let v6 : Bool := (a3.toList == (⟨#[]⟩ : ByteArray).toList); (some v6)) else (some false))) else (bif (a1 == (2 : Int)) then ((impl_within n a2 (-1099511627775 : Int) (1099511627775 : Int)).bind fun r7 => (bif r7 then (let v8 : Bool := (a3.toList == (⟨#[]⟩ : ByteArray).toList); (some v8)) else (some false))) else (bif (a1 == (3 : Int)) then (bif (a2 == (0 : Int)) then (some (decide ((a3.size : Int) ≤ (30 : Int)))) else (some false)) else (some false)))))
/-- loop.example/g00462/impl.ColOk -/
def impl_ColOk : Nat → ByteArray → Int → Bool → Bool → Int → Int → ByteArray → Option Bool
  | 0, _, _, _, _, _, _, _ => none
  | n + 1, a1, a2, a3, a4, a5, a6, a7 => ((impl_WordOk n a1).bind fun r8 => (bif (!r8) then (some false) else ((impl_within n a2 (1 : Int) (3 : Int)).bind fun r9 => (bif (!r9) then (some false) else ((impl_ValOk n a5 a6 a7).bind fun r10 => (bif (!r10) then (some false) else (bif (!a4) then (let v11 : Bool := ((a5 == (0 : Int)) && ((a6 == (0 : Int)) && ((a7.toList == (⟨#[]⟩ : ByteArray).toList) && true))); (some v11)) else (bif (a5 == a2) then (some true) else (bif (a5 == (0 : Int)) then (some (!a3)) else (some false))))))))))
/-- loop.example/g00462/impl.ColAt$1 -/
def impl_ColAt_1 : Nat → ByteArray → Int → Bool → Bool → Int → Int → ByteArray → ByteArray → Option Bool
  | 0, _, _, _, _, _, _, _, _ => none
  | n + 1, a1, a2, a3, a4, a5, a6, a7, a8 => (some (a1.toList == a8.toList))
def slices_IndexFunc_impl_Col_impl_Col__impl_ColAt_1_L1 (n : Nat) : Nat → List (ByteArray × (Int × (Bool × (Bool × (Int × (Int × ByteArray)))))) → ByteArray → Int → Int → Option Int
  | 0, _, _, _, _ => none
  | j + 1, x3, x4, x5, x6 => (bif (decide (x6 < x5)) then (bif (inR x6 x3.length) then (let v7 : (ByteArray × (Int × (Bool × (Bool × (Int × (Int × ByteArray)))))) := (x3.getD x6.toNat ((⟨#[]⟩ : ByteArray), ((0 : Int), (false, (false, ((0 : Int), ((0 : Int), (⟨#[]⟩ : ByteArray)))))))); ((impl_ColAt_1 n v7.1 v7.2.1 v7.2.2.1 v7.2.2.2.1 v7.2.2.2.2.1 v7.2.2.2.2.2.1 v7.2.2.2.2.2.2 x4).bind fun r8 => (bif r8 then (some x6) else (slices_IndexFunc_impl_Col_impl_Col__impl_ColAt_1_L1 n j x3 x4 x5 (IntKind.wrap .i64 (x6 + (1 : Int))))))) else none) else (some (-1 : Int)))
/-- slices.IndexFunc[[]loop.example/g00462/impl.Col,loop.example/g00462/impl.Col] -/
def slices_IndexFunc_impl_Col_impl_Col__impl_ColAt_1 : Nat → (List (ByteArray × (Int × (Bool × (Bool × (Int × (Int × ByteArray))))))) → ByteArray → Option Int
  | 0, _, _ => none
  | n + 1, a1, a2 => (slices_IndexFunc_impl_Col_impl_Col__impl_ColAt_1_L1 n n a1 a2 (a1.length : Int) (0 : Int))
/-- loop.example/g00462/impl.ColAt -/
def impl_ColAt : Nat → ByteArray → (List (ByteArray × (Int × (Bool × (Bool × (Int × (Int × ByteArray))))))) → (List ByteArray) → ByteArray → Option Int
  | 0, _, _, _, _ => none
  | n + 1, a1, a2, a3, a4 => ((slices_IndexFunc_impl_Col_impl_Col__impl_ColAt_1 n a2 a4).bind fun r5 => (some r5))
def impl_TableOk_L2 (n : Nat) : Nat → Int → List ByteArray → Int → Int → ByteArray → List (ByteArray × (Int × (Bool × (Bool × (Int × (Int × ByteArray)))))) → List ByteArray → Option Bool
  | 0, _, _, _, _, _, _, _ => none
  | j + 1, x13, x14, x15, x16, x17, x18, x19 => (bif (decide (x16 < x15)) then (bif (inR x16 x14.length) then (let v20 : ByteArray := (x14.getD x16.toNat (⟨#[]⟩ : ByteArray)); ((impl_ColAt n x17 x18 x19 v20).bind fun r21 => (bif (decide (r21 ≤ x13)) then (some false) else (bif (inR r21 x18.length) then (let v22 : (ByteArray × (Int × (Bool × (Bool × (Int × (Int × ByteArray)))))) := (x18.getD r21.toNat ((⟨#[]⟩ : ByteArray), ((0 : Int), (false, (false, ((0 : Int), ((0 : Int), (⟨#[]⟩ : ByteArray)))))))); (bif (!v22.2.2.1) then (some false) else (impl_TableOk_L2 n j r21 x14 x15 (IntKind.wrap .i64 (x16 + (1 : Int))) x17 x18 x19))) else none)))) else none) else ((impl_WordOk n x17).bind fun r23 => (bif r23 then ((impl_within n (x18.length : Int) (1 : Int) (8 : Int)).bind fun r24 => (bif r24 then (let v25 : Bool := (decide ((0 : Int) < (x19.length : Int))); (some v25)) else (some false))) else (some false))))
def impl_TableOk_L1 (n : Nat) : Nat → List (ByteArray × (Int × (Bool × (Bool × (Int × (Int × ByteArray)))))) → Int → Int → ByteArray → List (ByteArray × (Int × (Bool × (Bool × (Int × (Int × ByteArray)))))) → List ByteArray → Option Bool
  | 0, _, _, _, _, _, _ => none
  | j + 1, x4, x5, x6, x7, x8, x9 => (bif (decide (x6 < x5)) then (bif (inR x6 x4.length) then (let v10 : (ByteArray × (Int × (Bool × (Bool × (Int × (Int × ByteArray)))))) := (x4.getD x6.toNat ((⟨#[]⟩ : ByteArray), ((0 : Int), (false, (false, ((0 : Int), ((0 : Int), (⟨#[]⟩ : ByteArray)))))))); ((impl_ColOk n v10.1 v10.2.1 v10.2.2.1 v10.2.2.2.1 v10.2.2.2.2.1 v10.2.2.2.2.2.1 v10.2.2.2.2.2.2).bind fun r11 => (bif (!r11) then (some false) else ((impl_ColAt n x7 x8 x9 v10.1).bind fun r12 => (bif (r12 != x6) then (some false) else (impl_TableOk_L1 n j x4 x5 (IntKind.wrap .i64 (x6 + (1 : Int))) x7 x8 x9)))))) else none) else (impl_TableOk_L2 n n (-1 : Int) x9 (x9.length : Int) (0 : Int) x7 x8 x9))
/-- loop.example/g00462/impl.TableOk -/
def impl_TableOk : Nat → ByteArray → (List (ByteArray × (Int × (Bool × (Bool × (Int × (Int × ByteArray))))))) → (List ByteArray) → Option Bool
  | 0, _, _, _ => none
  | n + 1, a1, a2, a3 => (impl_TableOk_L1 n n a2 (a2.length : Int) (0 : Int) a1 a2 a3)
def impl_CatOk_L1 (n : Nat) : Nat → List (ByteArray × ((List (ByteArray × (Int × (Bool × (Bool × (Int × (Int × ByteArray))))))) × (List ByteArray))) → Int → Int → List (ByteArray × ((List (ByteArray × (Int × (Bool × (Bool × (Int × (Int × ByteArray))))))) × (List ByteArray))) → Option Bool
  | 0, _, _, _, _ => none
  | j + 1, x2, x3, x4, x5 => (bif (decide (x4 < x3)) then (bif (inR x4 x2.length) then (let v6 : (ByteArray × ((List (ByteArray × (Int × (Bool × (Bool × (Int × (Int × ByteArray))))))) × (List ByteArray))) := (x2.getD x4.toNat ((⟨#[]⟩ : ByteArray), (([] : (List (ByteArray × (Int × (Bool × (Bool × (Int × (Int × ByteArray)))))))), ([] : (List ByteArray))))); (let v7 : List (ByteArray × (Int × (Bool × (Bool × (Int × (Int × ByteArray)))))) := ([] : List (ByteArray × (Int × (Bool × (Bool × (Int × (Int × ByteArray))))))); ((impl_TableOk n v6.1 v6.2.1 v6.2.2).bind fun r8 => (bif (!r8) then (some false) else (bif (decide ((0 : Int) < x4)) then (bif (inR (IntKind.wrap .i64 (x4 - (1 : Int))) x5.length) then (let v9 : (ByteArray × ((List (ByteArray × (Int × (Bool × (Bool × (Int × (Int × ByteArray))))))) × (List ByteArray))) := (x5.getD (IntKind.wrap .i64 (x4 - (1 : Int))).toNat ((⟨#[]⟩ : ByteArray), (([] : (List (ByteArray × (Int × (Bool × (Bool × (Int × (Int × ByteArray)))))))), ([] : (List ByteArray))))); (let v10 : Bool := (!(Op.bytesLess v9.1.toList v6.1.toList)); (bif v10 then (some false) else (impl_CatOk_L1 n j x2 x3 (IntKind.wrap .i64 (x4 + (1 : Int))) x5)))) else none) else (impl_CatOk_L1 n j x2 x3 (IntKind.wrap .i64 (x4 + (1 : Int))) x5)))))) else none) else (let v11 : Bool := (decide ((x5.length : Int) ≤ (6 : Int))); (some v11)))
/-- loop.example/g00462/impl.CatOk -/
def impl_CatOk : Nat → (List (ByteArray × ((List (ByteArray × (Int × (Bool × (Bool × (Int × (Int × ByteArray))))))) × (List ByteArray)))) → Option Bool
  | 0, _ => none
  | n + 1, a1 => (impl_CatOk_L1 n n a1 (a1.length : Int) (0 : Int) a1)
/-- loop.example/g00462/impl.stands -/
def impl_stands : Nat → ByteArray → Int → Bool → Bool → Int → Int → ByteArray → Int → Int → ByteArray → Option Bool
  | 0, _, _, _, _, _, _, _, _, _, _ => none
  | n + 1, a1, a2, a3, a4, a5, a6, a7, a8, a9, a10 => ((impl_ValOk n a8 a9 a10).bind fun r11 => (bif r11 then (bif (a8 == a2) then (some true) else (bif (a8 == (0 : Int)) then (some (!a3)) else (some false))) else (some false)))
def impl_rowOk_L1 (n : Nat) : Nat → List (Int × (Int × ByteArray)) → Int → Int → ByteArray → List (ByteArray × (Int × (Bool × (Bool × (Int × (Int × ByteArray)))))) → List ByteArray → Option Bool
  | 0, _, _, _, _, _, _ => none
  | j + 1, x6, x7, x8, x9, x10, x11 => (bif (decide (x8 < x7)) then (bif (inR x8 x6.length) then (let v12 : (Int × (Int × ByteArray)) := (x6.getD x8.toNat ((0 : Int), ((0 : Int), (⟨#[]⟩ : ByteArray)))); (bif (inR x8 x10.length) then (let v13 : (ByteArray × (Int × (Bool × (Bool × (Int × (Int × ByteArray)))))) := (x10.getD x8.toNat ((⟨#[]⟩ : ByteArray), ((0 : Int), (false, (false, ((0 : Int), ((0 : Int), (⟨#[]⟩ : ByteArray)))))))); ((impl_stands n v13.1 v13.2.1 v13.2.2.1 v13.2.2.2.1 v13.2.2.2.2.1 v13.2.2.2.2.2.1 v13.2.2.2.2.2.2 v12.1 v12.2.1 v12.2.2).bind fun r14 => (bif (!r14) then (some false) else (impl_rowOk_L1 n j x6 x7 (IntKind.wrap .i64 (x8 + (1 : Int))) x9 x10 x11)))) else none)) else none) else (some true))
/-- loop.example/g00462/impl.rowOk -/
def impl_rowOk : Nat → ByteArray → (List (ByteArray × (Int × (Bool × (Bool × (Int × (Int × ByteArray))))))) → (List ByteArray) → (List (Int × (Int × ByteArray))) → Option Bool
  | 0, _, _, _, _ => none
  | n + 1, a1, a2, a3, a4 => (let v5 : Bool := ((a4.length : Int) != (a2.length : Int)); (bif v5 then (some false) else (impl_rowOk_L1 n n a4 (a4.length : Int) (0 : Int) a1 a2 a3)))
def impl_keyOf_L1 (n : Nat) : Nat → List ByteArray → Int → Int → ByteArray → List (ByteArray × (Int × (Bool × (Bool × (Int × (Int × ByteArray)))))) → List ByteArray → List (Int × (Int × ByteArray)) → List (Int × (Int × ByteArray)) → Option (List (Int × (Int × ByteArray)))
  | 0, _, _, _, _, _, _, _, _ => none
  | j + 1, x5, x6, x7, x8, x9, x10, x11, x12 => (bif (decide (x7 < x6)) then (bif (inR x7 x5.length) then ((impl_ColAt n x8 x9 x10 (x5.getD x7.toNat (⟨#[]⟩ : ByteArray))).bind fun r13 => (bif (inR r13 x11.length) then (let v14 : (Int × (Int × ByteArray)) := (x11.getD r13.toNat ((0 : Int), ((0 : Int), (⟨#[]⟩ : ByteArray)))); (let v15 : List (Int × (Int × ByteArray)) := ([(v14.1, (v14.2.1, v14.2.2))] : List (Int × (Int × ByteArray))); (bif (room (x12.length + v15.length) 32) then (impl_keyOf_L1 n j x5 x6 (IntKind.wrap .i64 (x7 + (1 : Int))) x8 x9 x10 x11 (x12 ++ v15)) else none))) else none)) else none) else (some x12))
/-- loop.example/g00462/impl.keyOf -/
def impl_keyOf : Nat → ByteArray → (List (ByteArray × (Int × (Bool × (Bool × (Int × (Int × ByteArray))))))) → (List ByteArray) → (List (Int × (Int × ByteArray))) → Option (List (Int × (Int × ByteArray)))
  | 0, _, _, _, _ => none
  | n + 1, a1, a2, a3, a4 => (impl_keyOf_L1 n n a3 (a3.length : Int) (0 : Int) a1 a2 a3 a4 ([] : List (Int × (Int × ByteArray))))
/-- loop.example/g00462/impl.ValLess -/
def impl_ValLess : Nat → Int → Int → ByteArray → Int → Int → ByteArray → Option Bool
  | 0, _, _, _, _, _, _ => none
  | n + 1, a1, a2, a3, a4, a5, a6 => ((impl_ValOk n a1 a2 a3).bind fun r7 => (bif (!r7) then (some false) else ((impl_ValOk n a4 a5 a6).bind fun r8 => (bif (!r8) then (some false) else (bif (a1 != a4) then (some (decide (a1 < a4))) else (bif (a2 != a5) then (some (decide (a2 < a5))) else (some (Op.bytesLess a3.toList a6.toList))))))))
def impl_KeyLess_L1 (n : Nat) : Nat → List (Int × (Int × ByteArray)) → List (Int × (Int × ByteArray)) → Int → Option Bool
  | 0, _, _, _ => none
  | j + 1, x3, x4, x5 => (bif (decide (x5 < (x3.length : Int))) then (bif (decide (x5 < (x4.length : Int))) then (bif (inR x5 x3.length) then (let v6 : (Int × (Int × ByteArray)) := (x3.getD x5.toNat ((0 : Int), ((0 : Int), (⟨#[]⟩ : ByteArray)))); (bif (inR x5 x4.length) then (let v7 : (Int × (Int × ByteArray)) := (x4.getD x5.toNat ((0 : Int), ((0 : Int), (⟨#[]⟩ : ByteArray)))); (let v8 : Bool := (!((v6.1 == v7.1) && ((v6.2.1 == v7.2.1) && ((v6.2.2.toList == v7.2.2.toList) && true)))); (bif v8 then (bif (inR x5 x3.length) then (let v9 : (Int × (Int × ByteArray)) := (x3.getD x5.toNat ((0 : Int), ((0 : Int), (⟨#[]⟩ : ByteArray)))); (bif (inR x5 x4.length) then (let v10 : (Int × (Int × ByteArray)) := (x4.getD x5.toNat ((0 : Int), ((0 : Int), (⟨#[]⟩ : ByteArray)))); ((impl_ValLess n v9.1 v9.2.1 v9.2.2 v10.1 v10.2.1 v10.2.2).bind fun r11 => (some r11))) else none)) else none) else (impl_KeyLess_L1 n j x3 x4 (IntKind.wrap .i64 (x5 + (1 : Int))))))) else none)) else none) else (let v12 : Bool := (decide ((x3.length : Int) < (x4.length : Int))); (some v12))) else (let v13 : Bool := (decide ((x3.length : Int) < (x4.length : Int))); (some v13)))
/-- loop.example/g00462/impl.KeyLess -/
def impl_KeyLess : Nat → (List (Int × (Int × ByteArray))) → (List (Int × (Int × ByteArray))) → Option Bool
  | 0, _, _ => none
  | n + 1, a1, a2 => (impl_KeyLess_L1 n n a1 a2 (0 : Int))
def impl_RowsOk_L1 (n : Nat) : Nat → List (List (Int × (Int × ByteArray))) → List (List (Int × (Int × ByteArray))) → Int → Int → ByteArray → List (ByteArray × (Int × (Bool × (Bool × (Int × (Int × ByteArray)))))) → List ByteArray → Option Bool
  | 0, _, _, _, _, _, _, _ => none
  | j + 1, x7, x8, x9, x10, x11, x12, x13 => (bif (decide (x10 < x9)) then (bif (inR x10 x8.length) then (let v14 : (List (Int × (Int × ByteArray))) := (x8.getD x10.toNat ([] : (List (Int × (Int × ByteArray))))); ((impl_rowOk n x11 x12 x13 v14).bind fun r15 => (bif (!r15) then (some false) else (bif (decide ((0 : Int) < x10)) then (bif (inR (IntKind.wrap .i64 (x10 - (1 : Int))) x7.length) then (let v16 : (List (Int × (Int × ByteArray))) := (x7.getD (IntKind.wrap .i64 (x10 - (1 : Int))).toNat ([] : (List (Int × (Int × ByteArray))))); ((impl_keyOf n x11 x12 x13 v16).bind fun r17 => ((impl_keyOf n x11 x12 x13 v14).bind fun r18 => ((impl_KeyLess n r17 r18).bind fun r19 => (bif (!r19) then (some false) else (impl_RowsOk_L1 n j x7 x8 x9 (IntKind.wrap .i64 (x10 + (1 : Int))) x11 x12 x13)))))) else none) else (impl_RowsOk_L1 n j x7 x8 x9 (IntKind.wrap .i64 (x10 + (1 : Int))) x11 x12 x13))))) else none) else (some true))
/-- loop.example/g00462/impl.RowsOk -/
def impl_RowsOk : Nat → ByteArray → (List (ByteArray × (Int × (Bool × (Bool × (Int × (Int × ByteArray))))))) → (List ByteArray) → (List (List (Int × (Int × ByteArray)))) → Option Bool
  | 0, _, _, _, _ => none
  | n + 1, a1, a2, a3, a4 => ((impl_TableOk n a1 a2 a3).bind fun r5 => (bif (!r5) then (some false) else (let v6 : Bool := (decide ((60 : Int) < (a4.length : Int))); (bif v6 then (some false) else (impl_RowsOk_L1 n n a4 a4 (a4.length : Int) (0 : Int) a1 a2 a3)))))
def impl_DbOk_L1 (n : Nat) : Nat → List (ByteArray × ((List (ByteArray × (Int × (Bool × (Bool × (Int × (Int × ByteArray))))))) × (List ByteArray))) → Int → Int → List (ByteArray × ((List (ByteArray × (Int × (Bool × (Bool × (Int × (Int × ByteArray))))))) × (List ByteArray))) → List (List (List (Int × (Int × ByteArray)))) → Option Bool
  | 0, _, _, _, _, _ => none
  | j + 1, x5, x6, x7, x8, x9 => (bif (decide (x7 < x6)) then (bif (inR x7 x5.length) then (let v10 : (ByteArray × ((List (ByteArray × (Int × (Bool × (Bool × (Int × (Int × ByteArray))))))) × (List ByteArray))) := (x5.getD x7.toNat ((⟨#[]⟩ : ByteArray), (([] : (List (ByteArray × (Int × (Bool × (Bool × (Int × (Int × ByteArray)))))))), ([] : (List ByteArray))))); (let v11 : List (ByteArray × (Int × (Bool × (Bool × (Int × (Int × ByteArray)))))) := ([] : List (ByteArray × (Int × (Bool × (Bool × (Int × (Int × ByteArray))))))); (bif (inR x7 x9.length) then (let v12 : (List (List (Int × (Int × ByteArray)))) := (x9.getD x7.toNat ([] : (List (List (Int × (Int × ByteArray)))))); ((impl_RowsOk n v10.1 v10.2.1 v10.2.2 v12).bind fun r13 => (bif (!r13) then (some false) else (impl_DbOk_L1 n j x5 x6 (IntKind.wrap .i64 (x7 + (1 : Int))) x8 x9)))) else none))) else none) else (some true))
/-- loop.example/g00462/impl.DbOk -/
def impl_DbOk : Nat → (List (ByteArray × ((List (ByteArray × (Int × (Bool × (Bool × (Int × (Int × ByteArray))))))) × (List ByteArray)))) → (List (List (List (Int × (Int × ByteArray))))) → Option Bool
  | 0, _, _ => none
  | n + 1, a1, a2 => ((impl_CatOk n a1).bind fun r3 => (bif (!r3) then (some false) else (let v4 : Bool := ((a2.length : Int) != (a1.length : Int)); (bif v4 then (some false) else (impl_DbOk_L1 n n a1 (a1.length : Int) (0 : Int) a1 a2)))))
/-- (loop.example/g00462/impl.Cat).at$1 -/
def impl_Cat_at_1 : Nat → ByteArray → (List (ByteArray × (Int × (Bool × (Bool × (Int × (Int × ByteArray))))))) → (List ByteArray) → ByteArray → Option Bool
  | 0, _, _, _, _ => none
  | n + 1, a1, a2, a3, a4 => (some (a1.toList == a4.toList))
def slices_IndexFunc_impl_Table_impl_Table__impl_Cat_at_1_L1 (n : Nat) : Nat → List (ByteArray × ((List (ByteArray × (Int × (Bool × (Bool × (Int × (Int × ByteArray))))))) × (List ByteArray))) → ByteArray → Int → Int → Option Int
  | 0, _, _, _, _ => none
  | j + 1, x3, x4, x5, x6 => (bif (decide (x6 < x5)) then (bif (inR x6 x3.length) then (let v7 : (ByteArray × ((List (ByteArray × (Int × (Bool × (Bool × (Int × (Int × ByteArray))))))) × (List ByteArray))) := (x3.getD x6.toNat ((⟨#[]⟩ : ByteArray), (([] : (List (ByteArray × (Int × (Bool × (Bool × (Int × (Int × ByteArray)))))))), ([] : (List ByteArray))))); ((impl_Cat_at_1 n v7.1 v7.2.1 v7.2.2 x4).bind fun r8 => (bif r8 then (some x6) else (slices_IndexFunc_impl_Table_impl_Table__impl_Cat_at_1_L1 n j x3 x4 x5 (IntKind.wrap .i64 (x6 + (1 : Int))))))) else none) else (some (-1 : Int)))
/-- slices.IndexFunc[[]loop.example/g00462/impl.Table,loop.example/g00462/impl.Table] -/
def slices_IndexFunc_impl_Table_impl_Table__impl_Cat_at_1 : Nat → (List (ByteArray × ((List (ByteArray × (Int × (Bool × (Bool × (Int × (Int × ByteArray))))))) × (List ByteArray)))) → ByteArray → Option Int
  | 0, _, _ => none
  | n + 1, a1, a2 => (slices_IndexFunc_impl_Table_impl_Table__impl_Cat_at_1_L1 n n a1 a2 (a1.length : Int) (0 : Int))
/-- (loop.example/g00462/impl.Cat).at -/
def impl_Cat_at : Nat → (List (ByteArray × ((List (ByteArray × (Int × (Bool × (Bool × (Int × (Int × ByteArray))))))) × (List ByteArray)))) → ByteArray → Option Int
  | 0, _, _ => none
  | n + 1, a1, a2 => ((slices_IndexFunc_impl_Table_impl_Table__impl_Cat_at_1 n a1 a2).bind fun r3 => (some r3))
def slices_Equal_impl_Col_impl_Col_L1 (n : Nat) : Nat → List (ByteArray × (Int × (Bool × (Bool × (Int × (Int × ByteArray)))))) → List (ByteArray × (Int × (Bool × (Bool × (Int × (Int × ByteArray)))))) → Int → Int → Option Bool
  | 0, _, _, _, _ => none
  | j + 1, x4, x5, x6, x7 => (bif (decide (x7 < x6)) then (bif (inR x7 x4.length) then (let v8 : (ByteArray × (Int × (Bool × (Bool × (Int × (Int × ByteArray)))))) := (x4.getD x7.toNat ((⟨#[]⟩ : ByteArray), ((0 : Int), (false, (false, ((0 : Int), ((0 : Int), (⟨#[]⟩ : ByteArray)))))))); (bif (inR x7 x5.length) then (let v9 : (ByteArray × (Int × (Bool × (Bool × (Int × (Int × ByteArray)))))) := (x5.getD x7.toNat ((⟨#[]⟩ : ByteArray), ((0 : Int), (false, (false, ((0 : Int), ((0 : Int), (⟨#[]⟩ : ByteArray)))))))); (let v10 : Bool := (!((v8.1.toList == v9.1.toList) && ((v8.2.1 == v9.2.1) && ((v8.2.2.1 == v9.2.2.1) && ((v8.2.2.2.1 == v9.2.2.2.1) && ((v8.2.2.2.2.1 == v9.2.2.2.2.1) && ((v8.2.2.2.2.2.1 == v9.2.2.2.2.2.1) && ((v8.2.2.2.2.2.2.toList == v9.2.2.2.2.2.2.toList) && true)))))))); (bif v10 then (some false) else (slices_Equal_impl_Col_impl_Col_L1 n j x4 x5 x6 (IntKind.wrap .i64 (x7 + (1 : Int))))))) else none)) else none) else (some true))
/-- slices.Equal[[]loop.example/g00462/impl.Col,loop.example/g00462/impl.Col] -/
def slices_Equal_impl_Col_impl_Col : Nat → (List (ByteArray × (Int × (Bool × (Bool × (Int × (Int × ByteArray))))))) → (List (ByteArray × (Int × (Bool × (Bool × (Int × (Int × ByteArray))))))) → Option Bool
  | 0, _, _ => none
  | n + 1, a1, a2 => (let v3 : Bool := ((a1.length : Int) != (a2.length : Int)); (bif v3 then (some false) else (slices_Equal_impl_Col_impl_Col_L1 n n a1 a2 (a1.length : Int) (0 : Int))))
def slices_Equal_string_string_L1 (n : Nat) : Nat → List ByteArray → List ByteArray → Int → Int → Option Bool
  | 0, _, _, _, _ => none
  | j + 1, x4, x5, x6, x7 => (bif (decide (x7 < x6)) then (bif (inR x7 x4.length) then (bif (inR x7 x5.length) then (let v8 : Bool := (!((x4.getD x7.toNat (⟨#[]⟩ : ByteArray)).toList == (x5.getD x7.toNat (⟨#[]⟩ : ByteArray)).toList)); (bif v8 then (some false) else (slices_Equal_string_string_L1 n j x4 x5 x6 (IntKind.wrap .i64 (x7 + (1 : Int)))))) else none) else none) else (some true))
/-- slices.Equal[[]string,string] -/
def slices_Equal_string_string : Nat → (List ByteArray) → (List ByteArray) → Option Bool
  | 0, _, _ => none
  | n + 1, a1, a2 => (let v3 : Bool := ((a1.length : Int) != (a2.length : Int)); (bif v3 then (some false) else (slices_Equal_string_string_L1 n n a1 a2 (a1.length : Int) (0 : Int))))
/-- loop.example/g00462/impl.equalTables -/
def impl_equalTables : Nat → ByteArray → (List (ByteArray × (Int × (Bool × (Bool × (Int × (Int × ByteArray))))))) → (List ByteArray) → ByteArray → (List (ByteArray × (Int × (Bool × (Bool × (Int × (Int × ByteArray))))))) → (List ByteArray) → Option Bool
  | 0, _, _, _, _, _, _ => none
  | n + 1, a1, a2, a3, a4, a5, a6 => (bif (a1.toList == a4.toList) then ((slices_Equal_impl_Col_impl_Col n a2 a5).bind fun r7 => (bif r7 then ((slices_Equal_string_string n a3 a6).bind fun r8 => (some r8)) else (some false))) else (some false))
def slices_Equal_impl_Val_impl_Val_L1 (n : Nat) : Nat → List (Int × (Int × ByteArray)) → List (Int × (Int × ByteArray)) → Int → Int → Option Bool
  | 0, _, _, _, _ => none
  | j + 1, x4, x5, x6, x7 => (bif (decide (x7 < x6)) then (bif (inR x7 x4.length) then (let v8 : (Int × (Int × ByteArray)) := (x4.getD x7.toNat ((0 : Int), ((0 : Int), (⟨#[]⟩ : ByteArray)))); (bif (inR x7 x5.length) then (let v9 : (Int × (Int × ByteArray)) := (x5.getD x7.toNat ((0 : Int), ((0 : Int), (⟨#[]⟩ : ByteArray)))); (let v10 : Bool := (!((v8.1 == v9.1) && ((v8.2.1 == v9.2.1) && ((v8.2.2.toList == v9.2.2.toList) && true)))); (bif v10 then (some false) else (slices_Equal_impl_Val_impl_Val_L1 n j x4 x5 x6 (IntKind.wrap .i64 (x7 + (1 : Int))))))) else none)) else none) else (some true))
/-- slices.Equal[[]loop.example/g00462/impl.Val,loop.example/g00462/impl.Val] -/
def slices_Equal_impl_Val_impl_Val : Nat → (List (Int × (Int × ByteArray))) → (List (Int × (Int × ByteArray))) → Option Bool
  | 0, _, _ => none
  | n + 1, a1, a2 => (let v3 : Bool := ((a1.length : Int) != (a2.length : Int)); (bif v3 then (some false) else (slices_Equal_impl_Val_impl_Val_L1 n n a1 a2 (a1.length : Int) (0 : Int))))
/-- loop.example/g00462/impl.SameRows$1 -/
def impl_SameRows_1 : Nat → (List (Int × (Int × ByteArray))) → (List (Int × (Int × ByteArray))) → Option Bool
  | 0, _, _ => none
  | n + 1, a1, a2 => ((slices_Equal_impl_Val_impl_Val n a1 a2).bind fun r3 => (some r3))
def slices_EqualFunc_impl_Row_impl_Row_impl_Row_impl_Row__impl_SameRows_1_L1 (n : Nat) : Nat → List (List (Int × (Int × ByteArray))) → List (List (Int × (Int × ByteArray))) → Int → Int → Option Bool
  | 0, _, _, _, _ => none
  | j + 1, x4, x5, x6, x7 => (bif (decide (x7 < x6)) then (bif (inR x7 x5.length) then (let v8 : (List (Int × (Int × ByteArray))) := (x5.getD x7.toNat ([] : (List (Int × (Int × ByteArray))))); (bif (inR x7 x4.length) then (let v9 : (List (Int × (Int × ByteArray))) := (x4.getD x7.toNat ([] : (List (Int × (Int × ByteArray))))); ((impl_SameRows_1 n v8 v9).bind fun r10 => (bif (!r10) then (some false) else (slices_EqualFunc_impl_Row_impl_Row_impl_Row_impl_Row__impl_SameRows_1_L1 n j x4 x5 x6 (IntKind.wrap .i64 (x7 + (1 : Int))))))) else none)) else none) else (some true))
/-- slices.EqualFunc[[]loop.example/g00462/impl.Row,[]loop.example/g00462/impl.Row,loop.example/g00462/impl.Row,loop.example/g00462/impl.Row] -/
def slices_EqualFunc_impl_Row_impl_Row_impl_Row_impl_Row__impl_SameRows_1 : Nat → (List (List (Int × (Int × ByteArray)))) → (List (List (Int × (Int × ByteArray)))) → Option Bool
  | 0, _, _ => none
  | n + 1, a1, a2 => (let v3 : Bool := ((a1.length : Int) != (a2.length : Int)); (bif v3 then (some false) else (slices_EqualFunc_impl_Row_impl_Row_impl_Row_impl_Row__impl_SameRows_1_L1 n n a2 a1 (a1.length : Int) (0 : Int))))
/-- loop.example/g00462/impl.SameRows -/
def impl_SameRows : Nat → (List (List (Int × (Int × ByteArray)))) → (List (List (Int × (Int × ByteArray)))) → Option Bool
  | 0, _, _ => none
  | n + 1, a1, a2 => ((slices_EqualFunc_impl_Row_impl_Row_impl_Row_impl_Row__impl_SameRows_1 n a1 a2).bind fun r3 => (some r3))
/-- slices.Sort[[]string,string] -/
def slices_Sort_string_string : Nat → (List ByteArray) → Option ((List ByteArray) × Unit)
  | 0, _ => none
  | n + 1, a1 => (sortF a1).map fun x => (x, ())
def impl_Diff_L2 (n : Nat) : Nat → List (ByteArray × ((List (ByteArray × (Int × (Bool × (Bool × (Int × (Int × ByteArray))))))) × (List ByteArray))) → Int → Int → List (ByteArray × ((List (ByteArray × (Int × (Bool × (Bool × (Int × (Int × ByteArray))))))) × (List ByteArray))) → List (List (List (Int × (Int × ByteArray)))) → List ByteArray → Option (List ByteArray)
  | 0, _, _, _, _, _, _ => none
  | j + 1, x23, x24, x25, x26, x27, x28 => (bif (decide (x25 < x24)) then (bif (inR x25 x23.length) then (let v29 : (ByteArray × ((List (ByteArray × (Int × (Bool × (Bool × (Int × (Int × ByteArray))))))) × (List ByteArray))) := (x23.getD x25.toNat ((⟨#[]⟩ : ByteArray), (([] : (List (ByteArray × (Int × (Bool × (Bool × (Int × (Int × ByteArray)))))))), ([] : (List ByteArray))))); (let v30 : List (ByteArray × (Int × (Bool × (Bool × (Int × (Int × ByteArray)))))) := ([] : List (ByteArray × (Int × (Bool × (Bool × (Int × (Int × ByteArray))))))); ((impl_Cat_at n x26 v29.1).bind fun r31 => (bif (decide (r31 < (0 : Int))) then (bif (room (x28.length + ([v29.1] : List ByteArray).length) 16) then (impl_Diff_L2 n j x23 x24 (IntKind.wrap .i64 (x25 + (1 : Int))) x26 x27 (x28 ++ ([v29.1] : List ByteArray))) else none) else (impl_Diff_L2 n j x23 x24 (IntKind.wrap .i64 (x25 + (1 : Int))) x26 x27 x28))))) else none) else ((slices_Sort_string_string n x28).bind fun r32 => (some r32.1)))
def impl_Diff_L1 (n : Nat) : Nat → List (ByteArray × ((List (ByteArray × (Int × (Bool × (Bool × (Int × (Int × ByteArray))))))) × (List ByteArray))) → Int → Int → List (ByteArray × ((List (ByteArray × (Int × (Bool × (Bool × (Int × (Int × ByteArray))))))) × (List ByteArray))) → List (List (List (Int × (Int × ByteArray)))) → List (ByteArray × ((List (ByteArray × (Int × (Bool × (Bool × (Int × (Int × ByteArray))))))) × (List ByteArray))) → List (List (List (Int × (Int × ByteArray)))) → List ByteArray → Option (List ByteArray)
  | 0, _, _, _, _, _, _, _, _ => none
  | j + 1, x7, x8, x9, x10, x11, x12, x13, x14 => (bif (decide (x9 < x8)) then (bif (inR x9 x7.length) then (let v15 : (ByteArray × ((List (ByteArray × (Int × (Bool × (Bool × (Int × (Int × ByteArray))))))) × (List ByteArray))) := (x7.getD x9.toNat ((⟨#[]⟩ : ByteArray), (([] : (List (ByteArray × (Int × (Bool × (Bool × (Int × (Int × ByteArray)))))))), ([] : (List ByteArray))))); (let v16 : List (ByteArray × (Int × (Bool × (Bool × (Int × (Int × ByteArray)))))) := ([] : List (ByteArray × (Int × (Bool × (Bool × (Int × (Int × ByteArray))))))); ((impl_Cat_at n x12 v15.1).bind fun r17 => (bif (decide (r17 < (0 : Int))) then (bif (room (x14.length + ([v15.1] : List ByteArray).length) 16) then (impl_Diff_L1 n j x7 x8 (IntKind.wrap .i64 (x9 + (1 : Int))) x10 x11 x12 x13 (x14 ++ ([v15.1] : List ByteArray))) else none) else (bif (inR r17 x12.length) then (let v18 : (ByteArray × ((List (ByteArray × (Int × (Bool × (Bool × (Int × (Int × ByteArray))))))) × (List ByteArray))) := (x12.getD r17.toNat ((⟨#[]⟩ : ByteArray), (([] : (List (ByteArray × (Int × (Bool × (Bool × (Int × (Int × ByteArray)))))))), ([] : (List ByteArray))))); ((impl_equalTables n v15.1 v15.2.1 v15.2.2 v18.1 v18.2.1 v18.2.2).bind fun r19 => (bif (!r19) then (bif (room (x14.length + ([v15.1] : List ByteArray).length) 16) then (impl_Diff_L1 n j x7 x8 (IntKind.wrap .i64 (x9 + (1 : Int))) x10 x11 x12 x13 (x14 ++ ([v15.1] : List ByteArray))) else none) else (bif (inR x9 x11.length) then (let v20 : (List (List (Int × (Int × ByteArray)))) := (x11.getD x9.toNat ([] : (List (List (Int × (Int × ByteArray)))))); (bif (inR r17 x13.length) then (let v21 : (List (List (Int × (Int × ByteArray)))) := (x13.getD r17.toNat ([] : (List (List (Int × (Int × ByteArray)))))); ((impl_SameRows n v20 v21).bind fun r22 => (bif (!r22) then (bif (room (x14.length + ([v15.1] : List ByteArray).length) 16) then (impl_Diff_L1 n j x7 x8 (IntKind.wrap .i64 (x9 + (1 : Int))) x10 x11 x12 x13 (x14 ++ ([v15.1] : List ByteArray))) else none) else (impl_Diff_L1 n j x7 x8 (IntKind.wrap .i64 (x9 + (1 : Int))) x10 x11 x12 x13 x14)))) else none)) else none)))) else none))))) else none) else (impl_Diff_L2 n n x12 (x12.length : Int) (0 : Int) x10 x11 x14))
/-- loop.example/g00462/impl.Diff -/
def impl_Diff : Nat → (List (ByteArray × ((List (ByteArray × (Int × (Bool × (Bool × (Int × (Int × ByteArray))))))) × (List ByteArray)))) → (List (List (List (Int × (Int × ByteArray))))) → (List (ByteArray × ((List (ByteArray × (Int × (Bool × (Bool × (Int × (Int × ByteArray))))))) × (List ByteArray)))) → (List (List (List (Int × (Int × ByteArray))))) → Option (List ByteArray)
  | 0, _, _, _, _ => none
  | n + 1, a1, a2, a3, a4 => ((impl_DbOk n a1 a2).bind fun r5 => (bif (!r5) then (some ([] : List ByteArray)) else ((impl_DbOk n a3 a4).bind fun r6 => (bif (!r6) then (some ([] : List ByteArray)) else (impl_Diff_L1 n n a1 (a1.length : Int) (0 : Int) a1 a2 a3 a4 ([] : List ByteArray))))))
/-- loop.example/g00462/impl.SameDb -/
def impl_SameDb : Nat → (List (ByteArray × ((List (ByteArray × (Int × (Bool × (Bool × (Int × (Int × ByteArray))))))) × (List ByteArray)))) → (List (List (List (Int × (Int × ByteArray))))) → (List (ByteArray × ((List (ByteArray × (Int × (Bool × (Bool × (Int × (Int × ByteArray))))))) × (List ByteArray)))) → (List (List (List (Int × (Int × ByteArray))))) → Option Bool
  | 0, _, _, _, _ => none
  | n + 1, a1, a2, a3, a4 => ((impl_DbOk n a1 a2).bind fun r5 => (bif r5 then ((impl_DbOk n a3 a4).bind fun r6 => (bif r6 then ((impl_Diff n a1 a2 a3 a4).bind fun r7 => (some ((r7.length : Int) == (0 : Int)))) else (some false))) else (some false)))
/-- loop.example/g00462/laws.eqVal -/
def laws_eqVal : Nat → Int → Int → ByteArray → Int → Int → ByteArray → Option Bool
  | 0, _, _, _, _, _, _ => none
  | n + 1, a1, a2, a3, a4, a5, a6 => (bif (a1 != a4) then (some false) else (bif (a2 != a5) then (some false) else (bif (!(a3.toList == a6.toList)) then (some false) else (some true))))
/-- loop.example/g00462/laws.eqCol -/
def laws_eqCol : Nat → ByteArray → Int → Bool → Bool → Int → Int → ByteArray → ByteArray → Int → Bool → Bool → Int → Int → ByteArray → Option Bool
  | 0, _, _, _, _, _, _, _, _, _, _, _, _, _, _ => none
  | n + 1, a1, a2, a3, a4, a5, a6, a7, a8, a9, a10, a11, a12, a13, a14 => (bif (!(a1.toList == a8.toList)) then (some false) else (bif (a2 != a9) then (some false) else (bif (!(a3 == a10)) then (some false) else (bif (!(a4 == a11)) then (some false) else ((laws_eqVal n a5 a6 a7 a12 a13 a14).bind fun r15 => (bif (!r15) then (some false) else (some true)))))))
def laws_eqColS_L1 (n : Nat) : Nat → List (ByteArray × (Int × (Bool × (Bool × (Int × (Int × ByteArray)))))) → List (ByteArray × (Int × (Bool × (Bool × (Int × (Int × ByteArray)))))) → Int → Option Bool
  | 0, _, _, _ => none
  | j + 1, x4, x5, x6 => (bif (decide (x6 < (x4.length : Int))) then (bif (inR x6 x4.length) then (let v7 : (ByteArray × (Int × (Bool × (Bool × (Int × (Int × ByteArray)))))) := (x4.getD x6.toNat ((⟨#[]⟩ : ByteArray), ((0 : Int), (false, (false, ((0 : Int), ((0 : Int), (⟨#[]⟩ : ByteArray)))))))); (bif (inR x6 x5.length) then (let v8 : (ByteArray × (Int × (Bool × (Bool × (Int × (Int × ByteArray)))))) := (x5.getD x6.toNat ((⟨#[]⟩ : ByteArray), ((0 : Int), (false, (false, ((0 : Int), ((0 : Int), (⟨#[]⟩ : ByteArray)))))))); ((laws_eqCol n v7.1 v7.2.1 v7.2.2.1 v7.2.2.2.1 v7.2.2.2.2.1 v7.2.2.2.2.2.1 v7.2.2.2.2.2.2 v8.1 v8.2.1 v8.2.2.1 v8.2.2.2.1 v8.2.2.2.2.1 v8.2.2.2.2.2.1 v8.2.2.2.2.2.2).bind fun r9 => (bif (!r9) then (some false) else (laws_eqColS_L1 n j x4 x5 (IntKind.wrap .i64 (x6 + (1 : Int))))))) else none)) else none) else (some true))
/-- loop.example/g00462/laws.eqColS -/
def laws_eqColS : Nat → (List (ByteArray × (Int × (Bool × (Bool × (Int × (Int × ByteArray))))))) → (List (ByteArray × (Int × (Bool × (Bool × (Int × (Int × ByteArray))))))) → Option Bool
  | 0, _, _ => none
  | n + 1, a1, a2 => (let v3 : Bool := ((a1.length : Int) != (a2.length : Int)); (bif v3 then (some false) else (laws_eqColS_L1 n n a1 a2 (0 : Int))))
def laws_eqStringS_L1 (n : Nat) : Nat → List ByteArray → List ByteArray → Int → Option Bool
  | 0, _, _, _ => none
  | j + 1, x4, x5, x6 => (bif (decide (x6 < (x4.length : Int))) then (bif (inR x6 x4.length) then (bif (inR x6 x5.length) then (let v7 : Bool := (!((x4.getD x6.toNat (⟨#[]⟩ : ByteArray)).toList == (x5.getD x6.toNat (⟨#[]⟩ : ByteArray)).toList)); (bif v7 then (some false) else (laws_eqStringS_L1 n j x4 x5 (IntKind.wrap .i64 (x6 + (1 : Int)))))) else none) else none) else (some true))
/-- loop.example/g00462/laws.eqStringS -/
def laws_eqStringS : Nat → (List ByteArray) → (List ByteArray) → Option Bool
  | 0, _, _ => none
  | n + 1, a1, a2 => (let v3 : Bool := ((a1.length : Int) != (a2.length : Int)); (bif v3 then (some false) else (laws_eqStringS_L1 n n a1 a2 (0 : Int))))
/-- loop.example/g00462/laws.eqTable -/
def laws_eqTable : Nat → ByteArray → (List (ByteArray × (Int × (Bool × (Bool × (Int × (Int × ByteArray))))))) → (List ByteArray) → ByteArray → (List (ByteArray × (Int × (Bool × (Bool × (Int × (Int × ByteArray))))))) → (List ByteArray) → Option Bool
  | 0, _, _, _, _, _, _ => none
  | n + 1, a1, a2, a3, a4, a5, a6 => (bif (!(a1.toList == a4.toList)) then (some false) else ((laws_eqColS n a2 a5).bind fun r7 => (bif (!r7) then (some false) else ((laws_eqStringS n a3 a6).bind fun r8 => (bif (!r8) then (some false) else (some true))))))
def laws_eqTableS_L1 (n : Nat) : Nat → List (ByteArray × ((List (ByteArray × (Int × (Bool × (Bool × (Int × (Int × ByteArray))))))) × (List ByteArray))) → List (ByteArray × ((List (ByteArray × (Int × (Bool × (Bool × (Int × (Int × ByteArray))))))) × (List ByteArray))) → Int → Option Bool
  | 0, _, _, _ => none
  | j + 1, x4, x5, x6 => (bif (decide (x6 < (x4.length : Int))) then (bif (inR x6 x4.length) then (let v7 : (ByteArray × ((List (ByteArray × (Int × (Bool × (Bool × (Int × (Int × ByteArray))))))) × (List ByteArray))) := (x4.getD x6.toNat ((⟨#[]⟩ : ByteArray), (([] : (List (ByteArray × (Int × (Bool × (Bool × (Int × (Int × ByteArray)))))))), ([] : (List ByteArray))))); (bif (inR x6 x5.length) then (let v8 : (ByteArray × ((List (ByteArray × (Int × (Bool × (Bool × (Int × (Int × ByteArray))))))) × (List ByteArray))) := (x5.getD x6.toNat ((⟨#[]⟩ : ByteArray), (([] : (List (ByteArray × (Int × (Bool × (Bool × (Int × (Int × ByteArray)))))))), ([] : (List ByteArray))))); ((laws_eqTable n v7.1 v7.2.1 v7.2.2 v8.1 v8.2.1 v8.2.2).bind fun r9 => (bif (!r9) then (some false) else (laws_eqTableS_L1 n j x4 x5 (IntKind.wrap .i64 (x6 + (1 : Int))))))) else none)) else none) else (some true))
/-- loop.example/g00462/laws.eqTableS -/
def laws_eqTableS : Nat → (List (ByteArray × ((List (ByteArray × (Int × (Bool × (Bool × (Int × (Int × ByteArray))))))) × (List ByteArray)))) → (List (ByteArray × ((List (ByteArray × (Int × (Bool × (Bool × (Int × (Int × ByteArray))))))) × (List ByteArray)))) → Option Bool
  | 0, _, _ => none
  | n + 1, a1, a2 => (let v3 : Bool := ((a1.length : Int) != (a2.length : Int)); (bif v3 then (some false) else (laws_eqTableS_L1 n n a1 a2 (0 : Int))))
/-- loop.example/g00462/laws.eqCat -/
def laws_eqCat : Nat → (List (ByteArray × ((List (ByteArray × (Int × (Bool × (Bool × (Int × (Int × ByteArray))))))) × (List ByteArray)))) → (List (ByteArray × ((List (ByteArray × (Int × (Bool × (Bool × (Int × (Int × ByteArray))))))) × (List ByteArray)))) → Option Bool
  | 0, _, _ => none
  | n + 1, a1, a2 => ((laws_eqTableS n a1 a2).bind fun r3 => (bif (!r3) then (some false) else (some true)))
def laws_eqValS_L1 (n : Nat) : Nat → List (Int × (Int × ByteArray)) → List (Int × (Int × ByteArray)) → Int → Option Bool
  | 0, _, _, _ => none
  | j + 1, x4, x5, x6 => (bif (decide (x6 < (x4.length : Int))) then (bif (inR x6 x4.length) then (let v7 : (Int × (Int × ByteArray)) := (x4.getD x6.toNat ((0 : Int), ((0 : Int), (⟨#[]⟩ : ByteArray)))); (bif (inR x6 x5.length) then (let v8 : (Int × (Int × ByteArray)) := (x5.getD x6.toNat ((0 : Int), ((0 : Int), (⟨#[]⟩ : ByteArray)))); ((laws_eqVal n v7.1 v7.2.1 v7.2.2 v8.1 v8.2.1 v8.2.2).bind fun r9 => (bif (!r9) then (some false) else (laws_eqValS_L1 n j x4 x5 (IntKind.wrap .i64 (x6 + (1 : Int))))))) else none)) else none) else (some true))
/-- loop.example/g00462/laws.eqValS -/
def laws_eqValS : Nat → (List (Int × (Int × ByteArray))) → (List (Int × (Int × ByteArray))) → Option Bool
  | 0, _, _ => none
  | n + 1, a1, a2 => (let v3 : Bool := ((a1.length : Int) != (a2.length : Int)); (bif v3 then (some false) else (laws_eqValS_L1 n n a1 a2 (0 : Int))))
/-- loop.example/g00462/laws.eqRow -/
def laws_eqRow : Nat → (List (Int × (Int × ByteArray))) → (List (Int × (Int × ByteArray))) → Option Bool
  | 0, _, _ => none
  | n + 1, a1, a2 => ((laws_eqValS n a1 a2).bind fun r3 => (bif (!r3) then (some false) else (some true)))
def laws_eqRowS_L1 (n : Nat) : Nat → List (List (Int × (Int × ByteArray))) → List (List (Int × (Int × ByteArray))) → Int → Option Bool
  | 0, _, _, _ => none
  | j + 1, x4, x5, x6 => (bif (decide (x6 < (x4.length : Int))) then (bif (inR x6 x4.length) then (let v7 : (List (Int × (Int × ByteArray))) := (x4.getD x6.toNat ([] : (List (Int × (Int × ByteArray))))); (bif (inR x6 x5.length) then (let v8 : (List (Int × (Int × ByteArray))) := (x5.getD x6.toNat ([] : (List (Int × (Int × ByteArray))))); ((laws_eqRow n v7 v8).bind fun r9 => (bif (!r9) then (some false) else (laws_eqRowS_L1 n j x4 x5 (IntKind.wrap .i64 (x6 + (1 : Int))))))) else none)) else none) else (some true))
/-- loop.example/g00462/laws.eqRowS -/
def laws_eqRowS : Nat → (List (List (Int × (Int × ByteArray)))) → (List (List (Int × (Int × ByteArray)))) → Option Bool
  | 0, _, _ => none
  | n + 1, a1, a2 => (let v3 : Bool := ((a1.length : Int) != (a2.length : Int)); (bif v3 then (some false) else (laws_eqRowS_L1 n n a1 a2 (0 : Int))))
/-- loop.example/g00462/laws.eqRows -/
def laws_eqRows : Nat → (List (List (Int × (Int × ByteArray)))) → (List (List (Int × (Int × ByteArray)))) → Option Bool
  | 0, _, _ => none
  | n + 1, a1, a2 => ((laws_eqRowS n a1 a2).bind fun r3 => (bif (!r3) then (some false) else (some true)))
def laws_eqRowsS_L1 (n : Nat) : Nat → List (List (List (Int × (Int × ByteArray)))) → List (List (List (Int × (Int × ByteArray)))) → Int → Option Bool
  | 0, _, _, _ => none
  | j + 1, x4, x5, x6 => (bif (decide (x6 < (x4.length : Int))) then (bif (inR x6 x4.length) then (let v7 : (List (List (Int × (Int × ByteArray)))) := (x4.getD x6.toNat ([] : (List (List (Int × (Int × ByteArray)))))); (bif (inR x6 x5.length) then (let v8 : (List (List (Int × (Int × ByteArray)))) := (x5.getD x6.toNat ([] : (List (List (Int × (Int × ByteArray)))))); ((laws_eqRows n v7 v8).bind fun r9 => (bif (!r9) then (some false) else (laws_eqRowsS_L1 n j x4 x5 (IntKind.wrap .i64 (x6 + (1 : Int))))))) else none)) else none) else (some true))
/-- loop.example/g00462/laws.eqRowsS -/
def laws_eqRowsS : Nat → (List (List (List (Int × (Int × ByteArray))))) → (List (List (List (Int × (Int × ByteArray))))) → Option Bool
  | 0, _, _ => none
  | n + 1, a1, a2 => (let v3 : Bool := ((a1.length : Int) != (a2.length : Int)); (bif v3 then (some false) else (laws_eqRowsS_L1 n n a1 a2 (0 : Int))))
/-- loop.example/g00462/laws.eqDb -/
def laws_eqDb : Nat → (List (ByteArray × ((List (ByteArray × (Int × (Bool × (Bool × (Int × (Int × ByteArray))))))) × (List ByteArray)))) → (List (List (List (Int × (Int × ByteArray))))) → (List (ByteArray × ((List (ByteArray × (Int × (Bool × (Bool × (Int × (Int × ByteArray))))))) × (List ByteArray)))) → (List (List (List (Int × (Int × ByteArray))))) → Option Bool
  | 0, _, _, _, _ => none
  | n + 1, a1, a2, a3, a4 => ((laws_eqCat n a1 a3).bind fun r5 => (bif (!r5) then (some false) else ((laws_eqRowsS n a2 a4).bind fun r6 => (bif (!r6) then (some false) else (some true)))))
/-- loop.example/g00462/laws.FnExactSameDb -/
def laws_FnExactSameDb : Nat → (List (ByteArray × ((List (ByteArray × (Int × (Bool × (Bool × (Int × (Int × ByteArray))))))) × (List ByteArray)))) → (List (List (List (Int × (Int × ByteArray))))) → (List (ByteArray × ((List (ByteArray × (Int × (Bool × (Bool × (Int × (Int × ByteArray))))))) × (List ByteArray)))) → (List (List (List (Int × (Int × ByteArray))))) → Option Bool
  | 0, _, _, _, _ => none
  | n + 1, a1, a2, a3, a4 => ((laws_szDb n a1 a2 (1048576 : Int)).bind fun r5 => (bif (decide (r5 < (0 : Int))) then (some true) else ((laws_szDb n a3 a4 r5).bind fun r6 => (bif (decide (r6 < (0 : Int))) then (some true) else ((laws_toDb n a1 a2).bind fun r7 => ((laws_toDb n a3 a4).bind fun r8 => ((spec_SameDb n r7.1 r7.2 r8.1 r8.2).bind fun r9 => ((laws_toDb n a1 a2).bind fun r10 => (let v11 : List (ByteArray × ((List (ByteArray × (Int × (Bool × (Bool × (Int × (Int × ByteArray))))))) × (List ByteArray))) := ([] : List (ByteArray × ((List (ByteArray × (Int × (Bool × (Bool × (Int × (Int × ByteArray))))))) × (List ByteArray)))); let v12 : List (List (List (Int × (Int × ByteArray)))) := ([] : List (List (List (Int × (Int × ByteArray))))); ((laws_toDb n a3 a4).bind fun r13 => (let v14 : List (ByteArray × ((List (ByteArray × (Int × (Bool × (Bool × (Int × (Int × ByteArray))))))) × (List ByteArray))) := ([] : List (ByteArray × ((List (ByteArray × (Int × (Bool × (Bool × (Int × (Int × ByteArray))))))) × (List ByteArray)))); let v15 : List (List (List (Int × (Int × ByteArray)))) := ([] : List (List (List (Int × (Int × ByteArray))))); ((impl_SameDb n r10.1 r10.2 r13.1 r13.2).bind fun r16 => (bif (!(r16 == r9)) then (some false) else ((laws_toDb n a1 a2).bind fun r17 => ((laws_eqDb n r10.1 r10.2 r17.1 r17.2).bind fun r18 => (bif (!r18) then (some false) else ((laws_toDb n a3 a4).bind fun r19 => ((laws_eqDb n r13.1 r13.2 r19.1 r19.2).bind fun r20 => (bif (!r20) then (some false) else (some true))))))))))))))))))))
end Go.Proofs.YtjopjjmhpadncaaGreat.Ev

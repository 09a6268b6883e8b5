/- The functions that the law FnExactExecAll reaches, as typed functions. -/
import Derived.Test.YtklgakikhdompaaGreatEvCore
set_option linter.all false
namespace Go.Proofs.YtklgakikhdompaaGreat.Ev
open Go
abbrev Y1 : Type := (Int × (Int × ByteArray))
abbrev Y2 : Type := List Y1
abbrev Y3 : Type := (Y2)
abbrev Y4 : Type := (Bool × Y1)
abbrev Y5 : Type := List Y3
abbrev Y6 : Type := (Y5)
abbrev Y7 : Type := (Bool × Y4)
abbrev Y8 : Type := List Y6
abbrev Y9 : Type := ((List ByteArray) × (ByteArray × ByteArray))
abbrev Y10 : Type := (Y8)
abbrev Y11 : Type := (Int × Y7)
abbrev Y12 : Type := (Y10 × Unit)
abbrev Y13 : Type := (Y6 × (Int × Unit))
abbrev Y14 : Type := (ByteArray × Y11)
abbrev Y15 : Type := List Y14
abbrev Y16 : Type := (Y15)
abbrev Y17 : Type := (Y16 × (List ByteArray))
abbrev Y18 : Type := (ByteArray × Y17)
abbrev Y19 : Type := List Y18
abbrev Y20 : Type := (Y19)
abbrev Y21 : Type := (Y16 × Y9)
abbrev Y22 : Type := (Y20 × Unit)
abbrev Y23 : Type := (Y20 × (Int × Unit))
abbrev Y24 : Type := (Int × Y22)
abbrev Y25 : Type := (ByteArray × Y21)
abbrev Y26 : Type := (Int × Y25)
abbrev Y27 : Type := (Y20 × Y10)
abbrev Y28 : Type := (Y3 × Y26)
abbrev Y29 : Type := (Y3 × Y28)
abbrev Y30 : Type := (ByteArray × Y29)
abbrev Y31 : Type := (Int × Y30)
abbrev Y32 : Type := List Y31
abbrev Y33 : Type := (Y32)
/-- loop.example/g00462/laws.szVal -/
def laws_szVal : Nat → Int → Int → ByteArray → Int → Option Int
  | 0, _, _, _, _ => none
  | n + 1, a1, a2, a3, a4 => (let v5 : Int := (IntKind.wrap .i64 (a4 - (a3.size : Int))); (bif (decide (v5 < 0)) then (some (-1 : Int)) else (some v5)))
/-- loop.example/g00462/laws.szCol -/
def laws_szCol : Nat → ByteArray → Int → Bool → Bool → Int → Int → ByteArray → Int → Option Int
  | 0, _, _, _, _, _, _, _, _ => none
  | n + 1, a1, a2, a3, a4, a5, a6, a7, a8 => (let v9 : Int := (IntKind.wrap .i64 (a8 - (a1.size : Int))); (bif (decide (v9 < 0)) then (some (-1 : Int)) else ((laws_szVal n a5 a6 a7 v9).bind fun r10 => (bif (decide (r10 < 0)) then (some (-1 : Int)) else (some r10)))))
def laws_szColS_L1 (n : Nat) : Nat → Y15 → Int → Int → Option Int
  | 0, _, _, _ => none
  | j + 1, x4, x5, x6 => (bif (decide (x6 < (x4.length : Int))) then (bif (inR x6 x4.length) then (let v7 := (x4.getD x6.toNat (⟨#[]⟩, (0, (false, (false, (0, (0, ⟨#[]⟩))))))); ((laws_szCol n v7.1 v7.2.1 v7.2.2.1 v7.2.2.2.1 v7.2.2.2.2.1 v7.2.2.2.2.2.1 v7.2.2.2.2.2.2 x5).bind fun r8 => (bif (decide (r8 < 0)) then (some (-1 : Int)) else (laws_szColS_L1 n j x4 r8 (IntKind.wrap .i64 (x6 + 1)))))) else none) else (some x5))
/-- loop.example/g00462/laws.szColS -/
def laws_szColS : Nat → Y16 → Int → Option Int
  | 0, _, _ => none
  | n + 1, a1, a2 => (let v3 : Int := (IntKind.wrap .i64 (a2 - (a1.length : Int))); (bif (decide (v3 < 0)) then (some (-1 : Int)) else (laws_szColS_L1 n n a1 v3 (0 : Int))))
def laws_szStringS_L1 (n : Nat) : Nat → List ByteArray → Int → Int → Option Int
  | 0, _, _, _ => none
  | j + 1, x4, x5, x6 => (bif (decide (x6 < (x4.length : Int))) then (bif (inR x6 x4.length) then (let v7 : Int := ((x4.getD x6.toNat ⟨#[]⟩).size : Int); (let v8 : Bool := (decide ((IntKind.wrap .i64 (x5 - v7)) < 0)); (bif v8 then (some (-1 : Int)) else (laws_szStringS_L1 n j x4 (IntKind.wrap .i64 (x5 - v7)) (IntKind.wrap .i64 (x6 + 1)))))) else none) else (some x5))
/-- loop.example/g00462/laws.szStringS -/
def laws_szStringS : Nat → (List ByteArray) → Int → Option Int
  | 0, _, _ => none
  | n + 1, a1, a2 => (let v3 : Int := (IntKind.wrap .i64 (a2 - (a1.length : Int))); (bif (decide (v3 < 0)) then (some (-1 : Int)) else (laws_szStringS_L1 n n a1 v3 (0 : Int))))
/-- loop.example/g00462/laws.szTable -/
def laws_szTable : Nat → ByteArray → Y16 → (List ByteArray) → Int → Option Int
  | 0, _, _, _, _ => none
  | n + 1, a1, a2, a3, a4 => (let v5 : Int := (IntKind.wrap .i64 (a4 - (a1.size : Int))); (bif (decide (v5 < 0)) then (some (-1 : Int)) else ((laws_szColS n a2 v5).bind fun r6 => (bif (decide (r6 < 0)) then (some (-1 : Int)) else ((laws_szStringS n a3 r6).bind fun r7 => (bif (decide (r7 < 0)) then (some (-1 : Int)) else (some r7)))))))
def laws_szTableS_L1 (n : Nat) : Nat → Y19 → Int → Int → Option Int
  | 0, _, _, _ => none
  | j + 1, x4, x5, x6 => (bif (decide (x6 < (x4.length : Int))) then (bif (inR x6 x4.length) then (let v7 := (x4.getD x6.toNat (⟨#[]⟩, ([], []))); ((laws_szTable n v7.1 v7.2.1 v7.2.2 x5).bind fun r8 => (bif (decide (r8 < 0)) then (some (-1 : Int)) else (laws_szTableS_L1 n j x4 r8 (IntKind.wrap .i64 (x6 + 1)))))) else none) else (some x5))
/-- loop.example/g00462/laws.szTableS -/
def laws_szTableS : Nat → Y20 → Int → Option Int
  | 0, _, _ => none
  | n + 1, a1, a2 => (let v3 : Int := (IntKind.wrap .i64 (a2 - (a1.length : Int))); (bif (decide (v3 < 0)) then (some (-1 : Int)) else (laws_szTableS_L1 n n a1 v3 (0 : Int))))
/-- loop.example/g00462/laws.szCat -/
def laws_szCat : Nat → Y20 → Int → Option Int
  | 0, _, _ => none
  | n + 1, a1, a2 => ((laws_szTableS n a1 a2).bind fun r3 => (bif (decide (r3 < 0)) then (some (-1 : Int)) else (some r3)))
def laws_szValS_L1 (n : Nat) : Nat → Y2 → Int → Int → Option Int
  | 0, _, _, _ => none
  | j + 1, x4, x5, x6 => (bif (decide (x6 < (x4.length : Int))) then (bif (inR x6 x4.length) then (let v7 := (x4.getD x6.toNat (0, (0, ⟨#[]⟩))); ((laws_szVal n v7.1 v7.2.1 v7.2.2 x5).bind fun r8 => (bif (decide (r8 < 0)) then (some (-1 : Int)) else (laws_szValS_L1 n j x4 r8 (IntKind.wrap .i64 (x6 + 1)))))) else none) else (some x5))
/-- loop.example/g00462/laws.szValS -/
def laws_szValS : Nat → Y3 → Int → Option Int
  | 0, _, _ => none
  | n + 1, a1, a2 => (let v3 : Int := (IntKind.wrap .i64 (a2 - (a1.length : Int))); (bif (decide (v3 < 0)) then (some (-1 : Int)) else (laws_szValS_L1 n n a1 v3 (0 : Int))))
/-- loop.example/g00462/laws.szRow -/
def laws_szRow : Nat → Y3 → Int → Option Int
  | 0, _, _ => none
  | n + 1, a1, a2 => ((laws_szValS n a1 a2).bind fun r3 => (bif (decide (r3 < 0)) then (some (-1 : Int)) else (some r3)))
def laws_szRowS_L1 (n : Nat) : Nat → Y5 → Int → Int → Option Int
  | 0, _, _, _ => none
  | j + 1, x4, x5, x6 => (bif (decide (x6 < (x4.length : Int))) then (bif (inR x6 x4.length) then (let v7 := (x4.getD x6.toNat []); ((laws_szRow n v7 x5).bind fun r8 => (bif (decide (r8 < 0)) then (some (-1 : Int)) else (laws_szRowS_L1 n j x4 r8 (IntKind.wrap .i64 (x6 + 1)))))) else none) else (some x5))
/-- loop.example/g00462/laws.szRowS -/
def laws_szRowS : Nat → Y6 → Int → Option Int
  | 0, _, _ => none
  | n + 1, a1, a2 => (let v3 : Int := (IntKind.wrap .i64 (a2 - (a1.length : Int))); (bif (decide (v3 < 0)) then (some (-1 : Int)) else (laws_szRowS_L1 n n a1 v3 (0 : Int))))
/-- loop.example/g00462/laws.szRows -/
def laws_szRows : Nat → Y6 → Int → Option Int
  | 0, _, _ => none
  | n + 1, a1, a2 => ((laws_szRowS n a1 a2).bind fun r3 => (bif (decide (r3 < 0)) then (some (-1 : Int)) else (some r3)))
def laws_szRowsS_L1 (n : Nat) : Nat → Y8 → Int → Int → Option Int
  | 0, _, _, _ => none
  | j + 1, x4, x5, x6 => (bif (decide (x6 < (x4.length : Int))) then (bif (inR x6 x4.length) then (let v7 := (x4.getD x6.toNat []); ((laws_szRows n v7 x5).bind fun r8 => (bif (decide (r8 < 0)) then (some (-1 : Int)) else (laws_szRowsS_L1 n j x4 r8 (IntKind.wrap .i64 (x6 + 1)))))) else none) else (some x5))
/-- loop.example/g00462/laws.szRowsS -/
def laws_szRowsS : Nat → Y10 → Int → Option Int
  | 0, _, _ => none
  | n + 1, a1, a2 => (let v3 : Int := (IntKind.wrap .i64 (a2 - (a1.length : Int))); (bif (decide (v3 < 0)) then (some (-1 : Int)) else (laws_szRowsS_L1 n n a1 v3 (0 : Int))))
/-- loop.example/g00462/laws.szDb -/
def laws_szDb : Nat → Y20 → Y10 → Int → Option Int
  | 0, _, _, _ => none
  | n + 1, a1, a2, a3 => ((laws_szCat n a1 a3).bind fun r4 => (bif (decide (r4 < 0)) then (some (-1 : Int)) else ((laws_szRowsS n a2 r4).bind fun r5 => (bif (decide (r5 < 0)) then (some (-1 : Int)) else (some r5)))))
/-- loop.example/g00462/laws.szDdl -/
def laws_szDdl : Nat → Int → ByteArray → Y16 → (List ByteArray) → ByteArray → ByteArray → Int → Option Int
  | 0, _, _, _, _, _, _, _ => none
  | n + 1, a1, a2, a3, a4, a5, a6, a7 => (let v8 : Int := (IntKind.wrap .i64 (a7 - (a2.size : Int))); (bif (decide (v8 < 0)) then (some (-1 : Int)) else ((laws_szColS n a3 v8).bind fun r9 => (bif (decide (r9 < 0)) then (some (-1 : Int)) else ((laws_szStringS n a4 r9).bind fun r10 => (bif (decide (r10 < 0)) then (some (-1 : Int)) else (let v11 : Int := (IntKind.wrap .i64 (r10 - (a5.size : Int))); (bif (decide (v11 < 0)) then (some (-1 : Int)) else (let v12 : Int := (IntKind.wrap .i64 (v11 - (a6.size : Int))); (bif (decide (v12 < 0)) then (some (-1 : Int)) else (some v12)))))))))))
/-- loop.example/g00462/laws.szStmt -/
def laws_szStmt : Nat → Int → ByteArray → Y3 → Y3 → Int → ByteArray → Y16 → (List ByteArray) → ByteArray → ByteArray → Int → Option Int
  | 0, _, _, _, _, _, _, _, _, _, _, _ => none
  | n + 1, a1, a2, a3, a4, a5, a6, a7, a8, a9, a10, a11 => (let v12 : Int := (IntKind.wrap .i64 (a11 - (a2.size : Int))); (bif (decide (v12 < 0)) then (some (-1 : Int)) else ((laws_szValS n a3 v12).bind fun r13 => (bif (decide (r13 < 0)) then (some (-1 : Int)) else ((laws_szRow n a4 r13).bind fun r14 => (bif (decide (r14 < 0)) then (some (-1 : Int)) else ((laws_szDdl n a5 a6 a7 a8 a9 a10 r14).bind fun r15 => (bif (decide (r15 < 0)) then (some (-1 : Int)) else (some r15)))))))))
def laws_szStmtS_L1 (n : Nat) : Nat → Y32 → Int → Int → Option Int
  | 0, _, _, _ => none
  | j + 1, x4, x5, x6 => (bif (decide (x6 < (x4.length : Int))) then (bif (inR x6 x4.length) then (let v7 := (x4.getD x6.toNat (0, (⟨#[]⟩, ([], ([], (0, (⟨#[]⟩, ([], ([], (⟨#[]⟩, ⟨#[]⟩)))))))))); ((laws_szStmt n v7.1 v7.2.1 v7.2.2.1 v7.2.2.2.1 v7.2.2.2.2.1 v7.2.2.2.2.2.1 v7.2.2.2.2.2.2.1 v7.2.2.2.2.2.2.2.1 v7.2.2.2.2.2.2.2.2.1 v7.2.2.2.2.2.2.2.2.2 x5).bind fun r8 => (bif (decide (r8 < 0)) then (some (-1 : Int)) else (laws_szStmtS_L1 n j x4 r8 (IntKind.wrap .i64 (x6 + 1)))))) else none) else (some x5))
/-- loop.example/g00462/laws.szStmtS -/
def laws_szStmtS : Nat → Y33 → Int → Option Int
  | 0, _, _ => none
  | n + 1, a1, a2 => (let v3 : Int := (IntKind.wrap .i64 (a2 - (a1.length : Int))); (bif (decide (v3 < 0)) then (some (-1 : Int)) else (laws_szStmtS_L1 n n a1 v3 (0 : Int))))
/-- loop.example/g00462/laws.toVal -/
def laws_toVal : Nat → Int → Int → ByteArray → Option Y1
  | 0, _, _, _ => none
  | n + 1, a1, a2, a3 => (some (a1, (a2, a3)))
/-- loop.example/g00462/laws.toCol -/
def laws_toCol : Nat → ByteArray → Int → Bool → Bool → Int → Int → ByteArray → Option Y14
  | 0, _, _, _, _, _, _, _ => none
  | n + 1, a1, a2, a3, a4, a5, a6, a7 => ((laws_toVal n a5 a6 a7).bind fun r8 => (some (a1, (a2, (a3, (a4, (r8.1, (r8.2.1, r8.2.2))))))))
def laws_toColS_L1 (n : Nat) : Nat → Y15 → Int → Y15 → Option Y16
  | 0, _, _, _ => none
  | j + 1, x4, x5, x6 => (bif (decide (x5 < (x4.length : Int))) then (bif (inR x5 x4.length) then (let v7 := (x4.getD x5.toNat (⟨#[]⟩, (0, (false, (false, (0, (0, ⟨#[]⟩))))))); ((laws_toCol n v7.1 v7.2.1 v7.2.2.1 v7.2.2.2.1 v7.2.2.2.2.1 v7.2.2.2.2.2.1 v7.2.2.2.2.2.2).bind fun r8 => (bif (inR x5 x6.length) then (let v9 := (x6.set x5.toNat (r8.1, (r8.2.1, (r8.2.2.1, (r8.2.2.2.1, (r8.2.2.2.2.1, (r8.2.2.2.2.2.1, r8.2.2.2.2.2.2))))))); (laws_toColS_L1 n j x4 (IntKind.wrap .i64 (x5 + 1)) v9)) else none))) else none) else (some x6))
/-- loop.example/g00462/laws.toColS -/
def laws_toColS : Nat → Y16 → Option Y16
  | 0, _ => none
  | n + 1, a1 => (let v2 : Y15 := []; (bif (decide ((a1.length : Int) = (a1.length : Int) ∧ 0 ≤ (a1.length : Int)) && room (a1.length : Int).toNat 64) then (let v3 : Y15 := (List.replicate (a1.length : Int).toNat ((⟨#[]⟩ : ByteArray), ((0 : Int), (false, (false, ((0 : Int), ((0 : Int), (⟨#[]⟩ : ByteArray)))))))); (laws_toColS_L1 n n a1 (0 : Int) v3)) else none))
def laws_toStringS_L1 (n : Nat) : Nat → List ByteArray → Int → List ByteArray → Option (List ByteArray)
  | 0, _, _, _ => none
  | j + 1, x3, x4, x5 => (bif (decide (x4 < (x3.length : Int))) then (bif (inR x4 x3.length) then (bif (inR x4 x5.length) then (let v6 := (x5.set x4.toNat (x3.getD x4.toNat ⟨#[]⟩)); (laws_toStringS_L1 n j x3 (IntKind.wrap .i64 (x4 + 1)) v6)) else none) else none) else (some x5))
/-- loop.example/g00462/laws.toStringS -/
def laws_toStringS : Nat → (List ByteArray) → Option (List ByteArray)
  | 0, _ => none
  | n + 1, a1 => (bif (decide ((a1.length : Int) = (a1.length : Int) ∧ 0 ≤ (a1.length : Int)) && room (a1.length : Int).toNat 16) then (let v2 : List ByteArray := (List.replicate (a1.length : Int).toNat (⟨#[]⟩ : ByteArray)); (laws_toStringS_L1 n n a1 (0 : Int) v2)) else none)
/-- loop.example/g00462/laws.toTable -/
def laws_toTable : Nat → ByteArray → Y16 → (List ByteArray) → Option Y18
  | 0, _, _, _ => none
  | n + 1, a1, a2, a3 => (let v4 : Y15 := []; (let v5 : Y15 := []; ((laws_toColS n a2).bind fun r6 => ((laws_toStringS n a3).bind fun r7 => (some (a1, (r6, r7)))))))
def laws_toTableS_L1 (n : Nat) : Nat → Y19 → Int → Y19 → Option Y20
  | 0, _, _, _ => none
  | j + 1, x4, x5, x6 => (bif (decide (x5 < (x4.length : Int))) then (bif (inR x5 x4.length) then (let v7 := (x4.getD x5.toNat (⟨#[]⟩, ([], []))); ((laws_toTable n v7.1 v7.2.1 v7.2.2).bind fun r8 => (bif (inR x5 x6.length) then (let v9 := (x6.set x5.toNat (r8.1, (r8.2.1, r8.2.2))); (laws_toTableS_L1 n j x4 (IntKind.wrap .i64 (x5 + 1)) v9)) else none))) else none) else (some x6))
/-- loop.example/g00462/laws.toTableS -/
def laws_toTableS : Nat → Y20 → Option Y20
  | 0, _ => none
  | n + 1, a1 => (let v2 : Y19 := []; (bif (decide ((a1.length : Int) = (a1.length : Int) ∧ 0 ≤ (a1.length : Int)) && room (a1.length : Int).toNat 64) then (let v3 : Y19 := (List.replicate (a1.length : Int).toNat ((⟨#[]⟩ : ByteArray), (([] : Y16), ([] : (List ByteArray))))); (laws_toTableS_L1 n n a1 (0 : Int) v3)) else none))
/-- loop.example/g00462/laws.toCat -/
def laws_toCat : Nat → Y20 → Option Y20
  | 0, _ => none
  | n + 1, a1 => (let v2 : Y19 := []; (let v3 : Y19 := []; ((laws_toTableS n a1).bind fun r4 => (some r4))))
def laws_toValS_L1 (n : Nat) : Nat → Y2 → Int → Y2 → Option Y3
  | 0, _, _, _ => none
  | j + 1, x3, x4, x5 => (bif (decide (x4 < (x3.length : Int))) then (bif (inR x4 x3.length) then (let v6 := (x3.getD x4.toNat (0, (0, ⟨#[]⟩))); ((laws_toVal n v6.1 v6.2.1 v6.2.2).bind fun r7 => (bif (inR x4 x5.length) then (let v8 := (x5.set x4.toNat (r7.1, (r7.2.1, r7.2.2))); (laws_toValS_L1 n j x3 (IntKind.wrap .i64 (x4 + 1)) v8)) else none))) else none) else (some x5))
/-- loop.example/g00462/laws.toValS -/
def laws_toValS : Nat → Y3 → Option Y3
  | 0, _ => none
  | n + 1, a1 => (bif (decide ((a1.length : Int) = (a1.length : Int) ∧ 0 ≤ (a1.length : Int)) && room (a1.length : Int).toNat 32) then (let v2 : Y2 := (List.replicate (a1.length : Int).toNat ((0 : Int), ((0 : Int), (⟨#[]⟩ : ByteArray)))); (laws_toValS_L1 n n a1 (0 : Int) v2)) else none)
/-- loop.example/g00462/laws.toRow -/
def laws_toRow : Nat → Y3 → Option Y3
  | 0, _ => none
  | n + 1, a1 => ((laws_toValS n a1).bind fun r2 => (some r2))
def laws_toRowS_L1 (n : Nat) : Nat → Y5 → Int → Y5 → Option Y6
  | 0, _, _, _ => none
  | j + 1, x4, x5, x6 => (bif (decide (x5 < (x4.length : Int))) then (bif (inR x5 x4.length) then (let v7 := (x4.getD x5.toNat []); ((laws_toRow n v7).bind fun r8 => (bif (inR x5 x6.length) then (laws_toRowS_L1 n j x4 (IntKind.wrap .i64 (x5 + 1)) (x6.set x5.toNat r8)) else none))) else none) else (some x6))
/-- loop.example/g00462/laws.toRowS -/
def laws_toRowS : Nat → Y6 → Option Y6
  | 0, _ => none
  | n + 1, a1 => (let v2 : Y5 := []; (bif (decide ((a1.length : Int) = (a1.length : Int) ∧ 0 ≤ (a1.length : Int)) && room (a1.length : Int).toNat 24) then (let v3 : Y5 := (List.replicate (a1.length : Int).toNat ([] : Y3)); (laws_toRowS_L1 n n a1 (0 : Int) v3)) else none))
/-- loop.example/g00462/laws.toRows -/
def laws_toRows : Nat → Y6 → Option Y6
  | 0, _ => none
  | n + 1, a1 => (let v2 : Y5 := []; (let v3 : Y5 := []; ((laws_toRowS n a1).bind fun r4 => (some r4))))
def laws_toRowsS_L1 (n : Nat) : Nat → Y8 → Int → Y8 → Option Y10
  | 0, _, _, _ => none
  | j + 1, x4, x5, x6 => (bif (decide (x5 < (x4.length : Int))) then (bif (inR x5 x4.length) then (let v7 := (x4.getD x5.toNat []); ((laws_toRows n v7).bind fun r8 => (bif (inR x5 x6.length) then (laws_toRowsS_L1 n j x4 (IntKind.wrap .i64 (x5 + 1)) (x6.set x5.toNat r8)) else none))) else none) else (some x6))
/-- loop.example/g00462/laws.toRowsS -/
def laws_toRowsS : Nat → Y10 → Option Y10
  | 0, _ => none
  | n + 1, a1 => (let v2 : Y8 := []; (bif (decide ((a1.length : Int) = (a1.length : Int) ∧ 0 ≤ (a1.length : Int)) && room (a1.length : Int).toNat 24) then (let v3 : Y8 := (List.replicate (a1.length : Int).toNat ([] : Y6)); (laws_toRowsS_L1 n n a1 (0 : Int) v3)) else none))
/-- loop.example/g00462/laws.toDb -/
def laws_toDb : Nat → Y20 → Y10 → Option Y27
  | 0, _, _ => none
  | n + 1, a1, a2 => (let v3 : Y19 := []; let v4 : Y8 := []; (let v5 : Y19 := []; let v6 : Y8 := []; ((laws_toCat n a1).bind fun r7 => ((laws_toRowsS n a2).bind fun r8 => (some (r7, r8))))))
/-- loop.example/g00462/laws.toDdl -/
def laws_toDdl : Nat → Int → ByteArray → Y16 → (List ByteArray) → ByteArray → ByteArray → Option Y26
  | 0, _, _, _, _, _, _ => none
  | n + 1, a1, a2, a3, a4, a5, a6 => (let v7 : Y15 := []; (let v8 : Y15 := []; ((laws_toColS n a3).bind fun r9 => ((laws_toStringS n a4).bind fun r10 => (some (a1, (a2, (r9, (r10, (a5, a6))))))))))
/-- loop.example/g00462/laws.toStmt -/
def laws_toStmt : Nat → Int → ByteArray → Y3 → Y3 → Int → ByteArray → Y16 → (List ByteArray) → ByteArray → ByteArray → Option Y31
  | 0, _, _, _, _, _, _, _, _, _, _ => none
  | n + 1, a1, a2, a3, a4, a5, a6, a7, a8, a9, a10 => (let v11 : Y15 := []; (let v12 : Y15 := []; ((laws_toValS n a3).bind fun r13 => ((laws_toRow n a4).bind fun r14 => ((laws_toDdl n a5 a6 a7 a8 a9 a10).bind fun r15 => (some (a1, (a2, (r13, (r14, (r15.1, (r15.2.1, (r15.2.2.1, (r15.2.2.2.1, (r15.2.2.2.2.1, r15.2.2.2.2.2)))))))))))))))
def laws_toStmtS_L1 (n : Nat) : Nat → Y32 → Int → Y32 → Option Y33
  | 0, _, _, _ => none
  | j + 1, x4, x5, x6 => (bif (decide (x5 < (x4.length : Int))) then (bif (inR x5 x4.length) then (let v7 := (x4.getD x5.toNat (0, (⟨#[]⟩, ([], ([], (0, (⟨#[]⟩, ([], ([], (⟨#[]⟩, ⟨#[]⟩)))))))))); ((laws_toStmt n v7.1 v7.2.1 v7.2.2.1 v7.2.2.2.1 v7.2.2.2.2.1 v7.2.2.2.2.2.1 v7.2.2.2.2.2.2.1 v7.2.2.2.2.2.2.2.1 v7.2.2.2.2.2.2.2.2.1 v7.2.2.2.2.2.2.2.2.2).bind fun r8 => (bif (inR x5 x6.length) then (let v9 := (x6.set x5.toNat (r8.1, (r8.2.1, (r8.2.2.1, (r8.2.2.2.1, (r8.2.2.2.2.1, (r8.2.2.2.2.2.1, (r8.2.2.2.2.2.2.1, (r8.2.2.2.2.2.2.2.1, (r8.2.2.2.2.2.2.2.2.1, r8.2.2.2.2.2.2.2.2.2)))))))))); (laws_toStmtS_L1 n j x4 (IntKind.wrap .i64 (x5 + 1)) v9)) else none))) else none) else (some x6))
/-- loop.example/g00462/laws.toStmtS -/
def laws_toStmtS : Nat → Y33 → Option Y33
  | 0, _ => none
  | n + 1, a1 => (let v2 : Y32 := []; (bif (decide ((a1.length : Int) = (a1.length : Int) ∧ 0 ≤ (a1.length : Int)) && room (a1.length : Int).toNat 176) then (let v3 : Y32 := (List.replicate (a1.length : Int).toNat ((0 : Int), ((⟨#[]⟩ : ByteArray), (([] : Y3), (([] : Y3), ((0 : Int), ((⟨#[]⟩ : ByteArray), (([] : Y16), (([] : (List ByteArray)), ((⟨#[]⟩ : ByteArray), (⟨#[]⟩ : ByteArray))))))))))); (laws_toStmtS_L1 n n a1 (0 : Int) v3)) else none))
def spec_WordOk_L1 (n : Nat) : Nat → ByteArray → Int → Option Bool
  | 0, _, _ => none
  | j + 1, x2, x3 => (bif (decide (x3 < (x2.size : Int))) then (bif (inR x3 x2.size) then (bif (decide ((bt x2 x3) < 97)) then (some false) else (bif (inR x3 x2.size) then (bif (decide ((122 : Int) < (bt x2 x3))) then (some false) else (spec_WordOk_L1 n j x2 (IntKind.wrap .i64 (x3 + 1)))) else none)) else none) else (bif (decide ((1 : Int) ≤ (x2.size : Int))) then (some (decide ((x2.size : Int) ≤ 8))) else (some false)))
/-- loop.example/g00462/spec.WordOk -/
def spec_WordOk : Nat → ByteArray → Option Bool
  | 0, _ => none
  | n + 1, a1 => (spec_WordOk_L1 n n a1 (0 : Int))
/-- loop.example/g00462/spec.l01Num -/
def spec_l01Num : Nat → Int → Option Bool
  | 0, _ => none
  | n + 1, a1 => (bif (decide ((-1099511627775 : Int) ≤ a1)) then (some (decide (a1 ≤ 1099511627775))) else (some false))
/-- loop.example/g00462/spec.ValOk -/
def spec_ValOk : Nat → Int → Int → ByteArray → Option Bool
  | 0, _, _, _ => none
  | n + 1, a1, a2, a3 => (bif (a1 == 0) then (bif (a2 == 0) then (let v4 : Bool := (a3.toList == (⟨#[]⟩ : ByteArray).toList); (some v4)) else (some false)) else (bif (a1 == 1) then (bif (a2 == 0) then (let v5 : Bool := (a3.toList == (⟨#[]⟩ : ByteArray).toList); (some v5)) else (bif (a2 == 1) then (let v6 : Bool := (a3.toList == (⟨#[]⟩ : ByteArray).toList); (some v6)) else (some false))) else (bif (a1 == 2) then ((spec_l01Num n a2).bind fun r7 => (bif r7 then (let v8 : Bool := (a3.toList == (⟨#[]⟩ : ByteArray).toList); (some v8)) else (some false))) else (bif (a1 == 3) then (bif (a2 == 0) then (some (decide ((a3.size : Int) ≤ 30))) else (some false)) else (some false)))))
/-- loop.example/g00462/spec.ColOk -/
def spec_ColOk : Nat → ByteArray → Int → Bool → Bool → Int → Int → ByteArray → Option Bool
  | 0, _, _, _, _, _, _, _ => none
  | n + 1, a1, a2, a3, a4, a5, a6, a7 => (let v8 : Bool := ((a5 == 0) && ((a6 == 0) && ((a7.toList == (⟨#[]⟩ : ByteArray).toList) && true))); ((spec_WordOk n a1).bind fun r9 => (bif (!r9) then (some false) else (bif (decide (a2 < 1)) then (some false) else (bif (decide ((3 : Int) < a2)) then (some false) else (bif (!a4) then (some v8) else ((spec_ValOk n a5 a6 a7).bind fun r10 => (bif r10 then (bif v8 then (bif v8 then (some (!a3)) else (some true)) else (bif (a5 == a2) then (bif v8 then (some (!a3)) else (some true)) else (some false))) else (some false)))))))))
def spec_ColAt_L1 (n : Nat) : Nat → ByteArray → Y15 → Int → Int → Option Int
  | 0, _, _, _, _ => none
  | j + 1, x5, x6, x7, x8 => (bif (decide (x8 < x7)) then (bif (inR x8 x6.length) then (let v9 := (x6.getD x8.toNat (⟨#[]⟩, (0, (false, (false, (0, (0, ⟨#[]⟩))))))); (bif (v9.1.toList == x5.toList) then (some x8) else (spec_ColAt_L1 n j x5 x6 x7 (IntKind.wrap .i64 (x8 + 1))))) else none) else (some (-1 : Int)))
/-- loop.example/g00462/spec.ColAt -/
def spec_ColAt : Nat → ByteArray → Y16 → (List ByteArray) → ByteArray → Option Int
  | 0, _, _, _, _ => none
  | n + 1, a1, a2, a3, a4 => (spec_ColAt_L1 n n a4 a2 (a2.length : Int) (0 : Int))
def spec_TableOk_L2 (n : Nat) : Nat → Int → List ByteArray → Int → Int → ByteArray → Y15 → List ByteArray → Option Bool
  | 0, _, _, _, _, _, _, _ => none
  | j + 1, x17, x18, x19, x20, x21, x22, x23 => (bif (decide (x20 < x19)) then (bif (inR x20 x18.length) then (let v24 : ByteArray := (x18.getD x20.toNat ⟨#[]⟩); ((spec_ColAt n x21 x22 x23 v24).bind fun r25 => (bif (decide (r25 ≤ x17)) then (some false) else (bif (inR r25 x22.length) then (let v26 := (x22.getD r25.toNat (⟨#[]⟩, (0, (false, (false, (0, (0, ⟨#[]⟩))))))); (bif (!v26.2.2.1) then (some false) else (spec_TableOk_L2 n j r25 x18 x19 (IntKind.wrap .i64 (x20 + 1)) x21 x22 x23))) else none)))) else none) else (some true))
def spec_TableOk_L1 (n : Nat) : Nat → Y15 → Int → Int → ByteArray → Y15 → List ByteArray → Option Bool
  | 0, _, _, _, _, _, _ => none
  | j + 1, x8, x9, x10, x11, x12, x13 => (bif (decide (x10 < x9)) then (bif (inR x10 x8.length) then (let v14 := (x8.getD x10.toNat (⟨#[]⟩, (0, (false, (false, (0, (0, ⟨#[]⟩))))))); ((spec_ColOk n v14.1 v14.2.1 v14.2.2.1 v14.2.2.2.1 v14.2.2.2.2.1 v14.2.2.2.2.2.1 v14.2.2.2.2.2.2).bind fun r15 => (bif (!r15) then (some false) else ((spec_ColAt n x11 x12 x13 v14.1).bind fun r16 => (bif (r16 != x10) then (some false) else (spec_TableOk_L1 n j x8 x9 (IntKind.wrap .i64 (x10 + 1)) x11 x12 x13)))))) else none) else (spec_TableOk_L2 n n (-1 : Int) x13 (x13.length : Int) (0 : Int) x11 x12 x13))
/-- loop.example/g00462/spec.TableOk -/
def spec_TableOk : Nat → ByteArray → Y16 → (List ByteArray) → Option Bool
  | 0, _, _, _ => none
  | n + 1, a1, a2, a3 => ((spec_WordOk n a1).bind fun r4 => (bif (!r4) then (some false) else (let v5 : Bool := (decide ((a2.length : Int) < 1)); (bif v5 then (some false) else (let v6 : Bool := (decide ((8 : Int) < (a2.length : Int))); (bif v6 then (some false) else (let v7 : Bool := (decide ((a3.length : Int) < 1)); (bif v7 then (some false) else (spec_TableOk_L1 n n a2 (a2.length : Int) (0 : Int) a1 a2 a3)))))))))
def spec_CatOk_L1 (n : Nat) : Nat → Y19 → Int → Int → Y19 → Option Bool
  | 0, _, _, _, _ => none
  | j + 1, x3, x4, x5, x6 => (bif (decide (x5 < x4)) then (bif (inR x5 x3.length) then (let v7 := (x3.getD x5.toNat (⟨#[]⟩, ([], []))); (let v8 : Y15 := []; ((spec_TableOk n v7.1 v7.2.1 v7.2.2).bind fun r9 => (bif (!r9) then (some false) else (bif (decide ((0 : Int) < x5)) then (bif (inR (IntKind.wrap .i64 (x5 - 1)) x6.length) then (let v10 := (x6.getD (IntKind.wrap .i64 (x5 - 1)).toNat (⟨#[]⟩, ([], []))); (let v11 : Bool := (!(Op.bytesLess v10.1.toList v7.1.toList)); (bif v11 then (some false) else (spec_CatOk_L1 n j x3 x4 (IntKind.wrap .i64 (x5 + 1)) x6)))) else none) else (spec_CatOk_L1 n j x3 x4 (IntKind.wrap .i64 (x5 + 1)) x6)))))) else none) else (some true))
/-- loop.example/g00462/spec.CatOk -/
def spec_CatOk : Nat → Y20 → Option Bool
  | 0, _ => none
  | n + 1, a1 => (let v2 : Bool := (decide ((6 : Int) < (a1.length : Int))); (bif v2 then (some false) else (spec_CatOk_L1 n n a1 (a1.length : Int) (0 : Int) a1)))
/-- loop.example/g00462/spec.l03Fits -/
def spec_l03Fits : Nat → ByteArray → Int → Bool → Bool → Int → Int → ByteArray → Int → Int → ByteArray → Option Bool
  | 0, _, _, _, _, _, _, _, _, _, _ => none
  | n + 1, a1, a2, a3, a4, a5, a6, a7, a8, a9, a10 => (bif (a8 == 0) then ((spec_ValOk n a8 a9 a10).bind fun r11 => (bif r11 then (some (!a3)) else (some false))) else ((spec_ValOk n a8 a9 a10).bind fun r12 => (bif r12 then (some (a8 == a2)) else (some false))))
def spec_RowOk_L1 (n : Nat) : Nat → Y15 → Int → Int → Y2 → Option Bool
  | 0, _, _, _, _ => none
  | j + 1, x7, x8, x9, x10 => (bif (decide (x9 < x8)) then (bif (inR x9 x7.length) then (let v11 := (x7.getD x9.toNat (⟨#[]⟩, (0, (false, (false, (0, (0, ⟨#[]⟩))))))); (bif (inR x9 x10.length) then (let v12 := (x10.getD x9.toNat (0, (0, ⟨#[]⟩))); ((spec_l03Fits n v11.1 v11.2.1 v11.2.2.1 v11.2.2.2.1 v11.2.2.2.2.1 v11.2.2.2.2.2.1 v11.2.2.2.2.2.2 v12.1 v12.2.1 v12.2.2).bind fun r13 => (bif (!r13) then (some false) else (spec_RowOk_L1 n j x7 x8 (IntKind.wrap .i64 (x9 + 1)) x10)))) else none)) else none) else (some true))
/-- loop.example/g00462/spec.RowOk -/
def spec_RowOk : Nat → ByteArray → Y16 → (List ByteArray) → Y3 → Option Bool
  | 0, _, _, _, _ => none
  | n + 1, a1, a2, a3, a4 => ((spec_TableOk n a1 a2 a3).bind fun r5 => (bif (!r5) then (some false) else (let v6 : Bool := ((a4.length : Int) != (a2.length : Int)); (bif v6 then (some false) else (spec_RowOk_L1 n n a2 (a2.length : Int) (0 : Int) a4)))))
def spec_l03Key_L1 (n : Nat) : Nat → List ByteArray → Int → Int → ByteArray → Y15 → List ByteArray → Y2 → Y2 → Option Y3
  | 0, _, _, _, _, _, _, _, _ => none
  | j + 1, x5, x6, x7, x8, x9, x10, x11, x12 => (bif (decide (x7 < x6)) then (bif (inR x7 x5.length) then ((spec_ColAt n x8 x9 x10 (x5.getD x7.toNat ⟨#[]⟩)).bind fun r13 => (bif (inR r13 x11.length) then (let v14 := (x11.getD r13.toNat (0, (0, ⟨#[]⟩))); (let v15 : Y2 := [(v14.1, (v14.2.1, v14.2.2))]; (bif (room (x12.length + v15.length) 32) then (spec_l03Key_L1 n j x5 x6 (IntKind.wrap .i64 (x7 + 1)) x8 x9 x10 x11 (x12 ++ v15)) else none))) else none)) else none) else (some x12))
/-- loop.example/g00462/spec.l03Key -/
def spec_l03Key : Nat → ByteArray → Y16 → (List ByteArray) → Y3 → Option Y3
  | 0, _, _, _, _ => none
  | n + 1, a1, a2, a3, a4 => (spec_l03Key_L1 n n a3 (a3.length : Int) (0 : Int) a1 a2 a3 a4 ([] : Y2))
/-- loop.example/g00462/spec.ValLess -/
def spec_ValLess : Nat → Int → Int → ByteArray → Int → Int → ByteArray → Option Bool
  | 0, _, _, _, _, _, _ => none
  | n + 1, a1, a2, a3, a4, a5, a6 => ((spec_ValOk n a1 a2 a3).bind fun r7 => (bif (!r7) then (some false) else ((spec_ValOk n a4 a5 a6).bind fun r8 => (bif (!r8) then (some false) else (bif (a1 != a4) then (some (decide (a1 < a4))) else (bif (decide (a2 < a5)) then (some true) else (bif (a2 == a5) then (some (Op.bytesLess a3.toList a6.toList)) else (some false))))))))
def spec_KeyLess_L1 (n : Nat) : Nat → Y2 → Y2 → Int → Option Bool
  | 0, _, _, _ => none
  | j + 1, x3, x4, x5 => (bif (decide (x5 < (x3.length : Int))) then (bif (decide (x5 < (x4.length : Int))) then (bif (inR x5 x3.length) then (let v6 := (x3.getD x5.toNat (0, (0, ⟨#[]⟩))); (bif (inR x5 x4.length) then (let v7 := (x4.getD x5.toNat (0, (0, ⟨#[]⟩))); (let v8 : Bool := (!((v6.1 == v7.1) && ((v6.2.1 == v7.2.1) && ((v6.2.2.toList == v7.2.2.toList) && true)))); (bif v8 then (bif (inR x5 x3.length) then (let v9 := (x3.getD x5.toNat (0, (0, ⟨#[]⟩))); (bif (inR x5 x4.length) then (let v10 := (x4.getD x5.toNat (0, (0, ⟨#[]⟩))); ((spec_ValLess n v9.1 v9.2.1 v9.2.2 v10.1 v10.2.1 v10.2.2).bind fun r11 => (some r11))) else none)) else none) else (spec_KeyLess_L1 n j x3 x4 (IntKind.wrap .i64 (x5 + 1)))))) else none)) else none) else (let v12 : Bool := (decide ((x3.length : Int) < (x4.length : Int))); (some v12))) else (let v13 : Bool := (decide ((x3.length : Int) < (x4.length : Int))); (some v13)))
/-- loop.example/g00462/spec.KeyLess -/
def spec_KeyLess : Nat → Y3 → Y3 → Option Bool
  | 0, _, _ => none
  | n + 1, a1, a2 => (spec_KeyLess_L1 n n a1 a2 (0 : Int))
def spec_RowsOk_L1 (n : Nat) : Nat → Y5 → Y5 → Int → Int → ByteArray → Y15 → List ByteArray → Option Bool
  | 0, _, _, _, _, _, _, _ => none
  | j + 1, x7, x8, x9, x10, x11, x12, x13 => (bif (decide (x10 < x9)) then (bif (inR x10 x8.length) then (let v14 := (x8.getD x10.toNat []); ((spec_RowOk n x11 x12 x13 v14).bind fun r15 => (bif (!r15) then (some false) else (bif (decide ((0 : Int) < x10)) then (bif (inR (IntKind.wrap .i64 (x10 - 1)) x7.length) then (let v16 := (x7.getD (IntKind.wrap .i64 (x10 - 1)).toNat []); ((spec_l03Key n x11 x12 x13 v16).bind fun r17 => ((spec_l03Key n x11 x12 x13 v14).bind fun r18 => ((spec_KeyLess n r17 r18).bind fun r19 => (bif (!r19) then (some false) else (spec_RowsOk_L1 n j x7 x8 x9 (IntKind.wrap .i64 (x10 + 1)) x11 x12 x13)))))) else none) else (spec_RowsOk_L1 n j x7 x8 x9 (IntKind.wrap .i64 (x10 + 1)) x11 x12 x13))))) else none) else (some true))
/-- loop.example/g00462/spec.RowsOk -/
def spec_RowsOk : Nat → ByteArray → Y16 → (List ByteArray) → Y6 → Option Bool
  | 0, _, _, _, _ => none
  | n + 1, a1, a2, a3, a4 => ((spec_TableOk n a1 a2 a3).bind fun r5 => (bif (!r5) then (some false) else (let v6 : Bool := (decide ((60 : Int) < (a4.length : Int))); (bif v6 then (some false) else (spec_RowsOk_L1 n n a4 a4 (a4.length : Int) (0 : Int) a1 a2 a3)))))
def spec_DbOk_L1 (n : Nat) : Nat → Y19 → Int → Int → Y19 → Y8 → Option Bool
  | 0, _, _, _, _, _ => none
  | j + 1, x5, x6, x7, x8, x9 => (bif (decide (x7 < x6)) then (bif (inR x7 x5.length) then (let v10 := (x5.getD x7.toNat (⟨#[]⟩, ([], []))); (let v11 : Y15 := []; (bif (inR x7 x9.length) then (let v12 := (x9.getD x7.toNat []); ((spec_RowsOk n v10.1 v10.2.1 v10.2.2 v12).bind fun r13 => (bif (!r13) then (some false) else (spec_DbOk_L1 n j x5 x6 (IntKind.wrap .i64 (x7 + 1)) x8 x9)))) else none))) else none) else (some true))
/-- loop.example/g00462/spec.DbOk -/
def spec_DbOk : Nat → Y20 → Y10 → Option Bool
  | 0, _, _ => none
  | n + 1, a1, a2 => ((spec_CatOk n a1).bind fun r3 => (bif (!r3) then (some false) else (let v4 : Bool := ((a2.length : Int) != (a1.length : Int)); (bif v4 then (some false) else (spec_DbOk_L1 n n a1 (a1.length : Int) (0 : Int) a1 a2)))))
/-- loop.example/g00462/spec.l02Table -/
def spec_l02Table : Nat → ByteArray → Y16 → (List ByteArray) → Option Y18
  | 0, _, _, _ => none
  | n + 1, a1, a2, a3 => (let v4 : Y15 := []; (let v5 : Y15 := []; (bif (room (v5.length + a2.length) 64) then (bif (room (([] : List ByteArray).length + a3.length) 16) then (some (a1, ((v5 ++ a2), (([] : List ByteArray) ++ a3)))) else none) else none)))
def spec_l02Copy_L1 (n : Nat) : Nat → Y19 → Int → Int → Y19 → Y19 → Option Y20
  | 0, _, _, _, _, _ => none
  | j + 1, x5, x6, x7, x8, x9 => (bif (decide (x7 < x6)) then (bif (inR x7 x5.length) then (let v10 := (x5.getD x7.toNat (⟨#[]⟩, ([], []))); (let v11 : Y15 := []; ((spec_l02Table n v10.1 v10.2.1 v10.2.2).bind fun r12 => (let v13 : Y19 := [(r12.1, (r12.2.1, r12.2.2))]; (bif (room (x9.length + v13.length) 64) then (spec_l02Copy_L1 n j x5 x6 (IntKind.wrap .i64 (x7 + 1)) x8 (x9 ++ v13)) else none))))) else none) else (some x9))
/-- loop.example/g00462/spec.l02Copy -/
def spec_l02Copy : Nat → Y20 → Option Y20
  | 0, _ => none
  | n + 1, a1 => (let v2 : Y19 := []; (let v3 : Y19 := []; (let v4 : Y19 := []; (spec_l02Copy_L1 n n a1 (a1.length : Int) (0 : Int) v2 v3))))
/-- loop.example/g00462/spec.l03Row -/
def spec_l03Row : Nat → Y3 → Option Y3
  | 0, _ => none
  | n + 1, a1 => (bif (room (([] : Y2).length + a1.length) 32) then (let v2 : Y2 := (([] : Y2) ++ a1); (some v2)) else none)
def spec_l03Copy_L1 (n : Nat) : Nat → Y5 → Int → Int → Y5 → Option Y6
  | 0, _, _, _, _ => none
  | j + 1, x4, x5, x6, x7 => (bif (decide (x6 < x5)) then (bif (inR x6 x4.length) then (let v8 := (x4.getD x6.toNat []); ((spec_l03Row n v8).bind fun r9 => (let v10 : Y5 := [r9]; (bif (room (x7.length + v10.length) 24) then (spec_l03Copy_L1 n j x4 x5 (IntKind.wrap .i64 (x6 + 1)) (x7 ++ v10)) else none)))) else none) else (some x7))
/-- loop.example/g00462/spec.l03Copy -/
def spec_l03Copy : Nat → Y6 → Option Y6
  | 0, _ => none
  | n + 1, a1 => (let v2 : Y5 := []; (let v3 : Y5 := []; (spec_l03Copy_L1 n n a1 (a1.length : Int) (0 : Int) v3)))
def spec_l04Copy_L1 (n : Nat) : Nat → Y8 → Int → Int → Y19 → Y8 → Y19 → Y8 → Option Y27
  | 0, _, _, _, _, _, _, _ => none
  | j + 1, x9, x10, x11, x12, x13, x14, x15 => (bif (decide (x11 < x10)) then (bif (inR x11 x9.length) then (let v16 := (x9.getD x11.toNat []); (let v17 : Y5 := []; ((spec_l03Copy n v16).bind fun r18 => (let v19 : Y8 := [r18]; (bif (room (x15.length + v19.length) 24) then (spec_l04Copy_L1 n j x9 x10 (IntKind.wrap .i64 (x11 + 1)) x12 x13 x14 (x15 ++ v19)) else none))))) else none) else (some (x14, x15)))
/-- loop.example/g00462/spec.l04Copy -/
def spec_l04Copy : Nat → Y20 → Y10 → Option Y27
  | 0, _, _ => none
  | n + 1, a1, a2 => (let v3 : Y19 := []; let v4 : Y8 := []; ((spec_l02Copy n a1).bind fun r5 => (let v6 : Y8 := []; (let v7 : Y19 := []; let v8 : Y8 := []; (spec_l04Copy_L1 n n a2 (a2.length : Int) (0 : Int) v3 v4 r5 v6)))))
def spec_l04Vals_L1 (n : Nat) : Nat → Y2 → Y2 → Int → Int → Option Bool
  | 0, _, _, _, _ => none
  | j + 1, x2, x3, x4, x5 => (bif (decide (x5 < x4)) then (bif (inR x5 x3.length) then (let v6 := (x3.getD x5.toNat (0, (0, ⟨#[]⟩))); ((spec_ValOk n v6.1 v6.2.1 v6.2.2).bind fun r7 => (bif (!r7) then (some false) else (spec_l04Vals_L1 n j x2 x3 x4 (IntKind.wrap .i64 (x5 + 1)))))) else none) else (let v8 : Bool := (decide ((1 : Int) ≤ (x2.length : Int))); (bif v8 then (let v9 : Bool := (decide ((x2.length : Int) ≤ 8)); (some v9)) else (some false))))
/-- loop.example/g00462/spec.l04Vals -/
def spec_l04Vals : Nat → Y3 → Option Bool
  | 0, _ => none
  | n + 1, a1 => (spec_l04Vals_L1 n n a1 a1 (a1.length : Int) (0 : Int))
/-- loop.example/g00462/spec.l04NoDdl -/
def spec_l04NoDdl : Nat → Int → ByteArray → Y16 → (List ByteArray) → ByteArray → ByteArray → Option Bool
  | 0, _, _, _, _, _, _ => none
  | n + 1, a1, a2, a3, a4, a5, a6 => (bif (a1 == 0) then (let v7 : Bool := (a2.toList == (⟨#[]⟩ : ByteArray).toList); (bif v7 then (bif ((a3.length : Int) == 0) then (bif ((a4.length : Int) == 0) then (let v8 : Bool := (a5.toList == (⟨#[]⟩ : ByteArray).toList); (bif v8 then (let v9 : Bool := (a6.toList == (⟨#[]⟩ : ByteArray).toList); (some v9)) else (some false))) else (some false)) else (some false)) else (some false))) else (some false))
/-- loop.example/g00462/spec.DdlOk -/
def spec_DdlOk : Nat → Int → ByteArray → Y16 → (List ByteArray) → ByteArray → ByteArray → Option Bool
  | 0, _, _, _, _, _, _ => none
  | n + 1, a1, a2, a3, a4, a5, a6 => ((spec_WordOk n a2).bind fun r7 => (bif (!r7) then (some false) else (bif ((a3.length : Int) == 0) then (bif (a1 == 1) then (let v8 : Bool := (a5.toList == (⟨#[]⟩ : ByteArray).toList); (bif v8 then (let v9 : Bool := (a6.toList == (⟨#[]⟩ : ByteArray).toList); (bif v9 then ((spec_TableOk n a2 a3 a4).bind fun r10 => (some r10)) else (some false))) else (some false))) else (bif (a1 == 2) then (bif ((a4.length : Int) == 0) then (let v11 : Bool := (a5.toList == (⟨#[]⟩ : ByteArray).toList); (bif v11 then (let v12 : Bool := (a6.toList == (⟨#[]⟩ : ByteArray).toList); (some v12)) else (some false))) else (some false)) else (bif (a1 == 3) then (bif ((a3.length : Int) == 1) then (bif (inR (0 : Int) a3.length) then (let v13 := (a3.getD (0 : Int).toNat (⟨#[]⟩, (0, (false, (false, (0, (0, ⟨#[]⟩))))))); ((spec_ColOk n v13.1 v13.2.1 v13.2.2.1 v13.2.2.2.1 v13.2.2.2.2.1 v13.2.2.2.2.2.1 v13.2.2.2.2.2.2).bind fun r14 => (bif r14 then (bif (inR (0 : Int) a3.length) then (let v15 := (a3.getD (0 : Int).toNat (⟨#[]⟩, (0, (false, (false, (0, (0, ⟨#[]⟩))))))); (bif v15.2.2.2.1 then (bif ((a4.length : Int) == 0) then (let v16 : Bool := (a5.toList == (⟨#[]⟩ : ByteArray).toList); (bif v16 then (let v17 : Bool := (a6.toList == (⟨#[]⟩ : ByteArray).toList); (some v17)) else (some false))) else (some false)) else (bif (inR (0 : Int) a3.length) then (let v18 := (a3.getD (0 : Int).toNat (⟨#[]⟩, (0, (false, (false, (0, (0, ⟨#[]⟩))))))); (bif (!v18.2.2.1) then (bif ((a4.length : Int) == 0) then (let v19 : Bool := (a5.toList == (⟨#[]⟩ : ByteArray).toList); (bif v19 then (let v20 : Bool := (a6.toList == (⟨#[]⟩ : ByteArray).toList); (some v20)) else (some false))) else (some false)) else (some false))) else none))) else none) else (some false)))) else none) else (some false)) else (bif (a1 == 4) then (bif ((a4.length : Int) == 0) then ((spec_WordOk n a5).bind fun r21 => (bif r21 then (let v22 : Bool := (a6.toList == (⟨#[]⟩ : ByteArray).toList); (some v22)) else (some false))) else (some false)) else (bif (a1 == 5) then (bif ((a4.length : Int) == 0) then ((spec_WordOk n a5).bind fun r23 => (bif r23 then ((spec_WordOk n a6).bind fun r24 => (some r24)) else (some false))) else (some false)) else (some false)))))) else (bif (a1 == 1) then (let v25 : Bool := (a5.toList == (⟨#[]⟩ : ByteArray).toList); (bif v25 then (let v26 : Bool := (a6.toList == (⟨#[]⟩ : ByteArray).toList); (bif v26 then ((spec_TableOk n a2 a3 a4).bind fun r27 => (some r27)) else (some false))) else (some false))) else (bif (a1 == 2) then (some false) else (bif (a1 == 3) then (bif ((a3.length : Int) == 1) then (bif (inR (0 : Int) a3.length) then (let v28 := (a3.getD (0 : Int).toNat (⟨#[]⟩, (0, (false, (false, (0, (0, ⟨#[]⟩))))))); ((spec_ColOk n v28.1 v28.2.1 v28.2.2.1 v28.2.2.2.1 v28.2.2.2.2.1 v28.2.2.2.2.2.1 v28.2.2.2.2.2.2).bind fun r29 => (bif r29 then (bif (inR (0 : Int) a3.length) then (let v30 := (a3.getD (0 : Int).toNat (⟨#[]⟩, (0, (false, (false, (0, (0, ⟨#[]⟩))))))); (bif v30.2.2.2.1 then (bif ((a4.length : Int) == 0) then (let v31 : Bool := (a5.toList == (⟨#[]⟩ : ByteArray).toList); (bif v31 then (let v32 : Bool := (a6.toList == (⟨#[]⟩ : ByteArray).toList); (some v32)) else (some false))) else (some false)) else (bif (inR (0 : Int) a3.length) then (let v33 := (a3.getD (0 : Int).toNat (⟨#[]⟩, (0, (false, (false, (0, (0, ⟨#[]⟩))))))); (bif (!v33.2.2.1) then (bif ((a4.length : Int) == 0) then (let v34 : Bool := (a5.toList == (⟨#[]⟩ : ByteArray).toList); (bif v34 then (let v35 : Bool := (a6.toList == (⟨#[]⟩ : ByteArray).toList); (some v35)) else (some false))) else (some false)) else (some false))) else none))) else none) else (some false)))) else none) else (some false)) else (bif (a1 == 4) then (some false) else (bif (a1 == 5) then (some false) else (some false)))))))))
/-- loop.example/g00462/spec.StmtOk -/
def spec_StmtOk : Nat → Int → ByteArray → Y3 → Y3 → Int → ByteArray → Y16 → (List ByteArray) → ByteArray → ByteArray → Option Bool
  | 0, _, _, _, _, _, _, _, _, _, _ => none
  | n + 1, a1, a2, a3, a4, a5, a6, a7, a8, a9, a10 => ((spec_WordOk n a2).bind fun r11 => (bif (!r11) then (some false) else (bif (a1 == 1) then (bif ((a3.length : Int) == 0) then ((spec_l04Vals n a4).bind fun r12 => (bif r12 then ((spec_l04NoDdl n a5 a6 a7 a8 a9 a10).bind fun r13 => (some r13)) else (some false))) else (some false)) else (bif (a1 == 2) then ((spec_l04Vals n a3).bind fun r14 => (bif r14 then ((spec_l04Vals n a4).bind fun r15 => (bif r15 then ((spec_l04NoDdl n a5 a6 a7 a8 a9 a10).bind fun r16 => (some r16)) else (some false))) else (some false))) else (bif (a1 == 3) then ((spec_l04Vals n a3).bind fun r17 => (bif r17 then (bif ((a4.length : Int) == 0) then ((spec_l04NoDdl n a5 a6 a7 a8 a9 a10).bind fun r18 => (some r18)) else (some false)) else (some false))) else (bif (a1 == 4) then (bif ((a3.length : Int) == 0) then (bif ((a4.length : Int) == 0) then ((spec_l04NoDdl n a5 a6 a7 a8 a9 a10).bind fun r19 => (some r19)) else (some false)) else (some false)) else (bif (a1 == 5) then (bif ((a3.length : Int) == 0) then (bif ((a4.length : Int) == 0) then ((spec_DdlOk n a5 a6 a7 a8 a9 a10).bind fun r20 => (bif r20 then (some (a6.toList == a2.toList)) else (some false))) else (some false)) else (some false)) else (some false))))))))
def spec_l02At_L1 (n : Nat) : Nat → ByteArray → Y19 → Int → Int → Option Int
  | 0, _, _, _, _ => none
  | j + 1, x3, x4, x5, x6 => (bif (decide (x6 < x5)) then (bif (inR x6 x4.length) then (let v7 := (x4.getD x6.toNat (⟨#[]⟩, ([], []))); (let v8 : Y15 := []; (bif (v7.1.toList == x3.toList) then (some x6) else (spec_l02At_L1 n j x3 x4 x5 (IntKind.wrap .i64 (x6 + 1)))))) else none) else (some (-1 : Int)))
/-- loop.example/g00462/spec.l02At -/
def spec_l02At : Nat → Y20 → ByteArray → Option Int
  | 0, _, _ => none
  | n + 1, a1, a2 => (spec_l02At_L1 n n a2 a1 (a1.length : Int) (0 : Int))
def spec_l02Put_L1 (n : Nat) : Nat → Bool → Y19 → Int → Int → ByteArray → Y15 → List ByteArray → Y19 → Y19 → Option Y20
  | 0, _, _, _, _, _, _, _, _, _ => none
  | j + 1, x8, x9, x10, x11, x12, x13, x14, x15, x16 => (bif (decide (x11 < x10)) then (bif (inR x11 x9.length) then (let v17 := (x9.getD x11.toNat (⟨#[]⟩, ([], []))); (let v18 : Y15 := []; (bif (!x8) then (bif (Op.bytesLess x12.toList v17.1.toList) then (let v19 : Y19 := [(x12, (x13, x14))]; (bif (room (x16.length + v19.length) 64) then (let v20 : Y19 := [(v17.1, (v17.2.1, v17.2.2))]; (bif (room ((x16 ++ v19).length + v20.length) 64) then (spec_l02Put_L1 n j true x9 x10 (IntKind.wrap .i64 (x11 + 1)) x12 x13 x14 x15 ((x16 ++ v19) ++ v20)) else none)) else none)) else (let v21 : Y19 := [(v17.1, (v17.2.1, v17.2.2))]; (bif (room (x16.length + v21.length) 64) then (spec_l02Put_L1 n j x8 x9 x10 (IntKind.wrap .i64 (x11 + 1)) x12 x13 x14 x15 (x16 ++ v21)) else none))) else (let v22 : Y19 := [(v17.1, (v17.2.1, v17.2.2))]; (bif (room (x16.length + v22.length) 64) then (spec_l02Put_L1 n j x8 x9 x10 (IntKind.wrap .i64 (x11 + 1)) x12 x13 x14 x15 (x16 ++ v22)) else none))))) else none) else (bif (!x8) then (let v23 : Y19 := [(x12, (x13, x14))]; (bif (room (x16.length + v23.length) 64) then (some (x16 ++ v23)) else none)) else (some x16)))
/-- loop.example/g00462/spec.l02Put -/
def spec_l02Put : Nat → Y20 → ByteArray → Y16 → (List ByteArray) → Option Y20
  | 0, _, _, _, _ => none
  | n + 1, a1, a2, a3, a4 => (let v5 : Y19 := []; (let v6 : Y19 := []; (let v7 : Y19 := []; (spec_l02Put_L1 n n false a1 (a1.length : Int) (0 : Int) a2 a3 a4 v5 v6))))
def spec_l02Has_L1 (n : Nat) : Nat → ByteArray → List ByteArray → Int → Int → Option Bool
  | 0, _, _, _, _ => none
  | j + 1, x3, x4, x5, x6 => (bif (decide (x6 < x5)) then (bif (inR x6 x4.length) then (let v7 : Bool := ((x4.getD x6.toNat ⟨#[]⟩).toList == x3.toList); (bif v7 then (some true) else (spec_l02Has_L1 n j x3 x4 x5 (IntKind.wrap .i64 (x6 + 1))))) else none) else (some false))
/-- loop.example/g00462/spec.l02Has -/
def spec_l02Has : Nat → (List ByteArray) → ByteArray → Option Bool
  | 0, _, _ => none
  | n + 1, a1, a2 => (spec_l02Has_L1 n n a2 a1 (a1.length : Int) (0 : Int))
/-- loop.example/g00462/spec.l02Fault -/
def spec_l02Fault : Nat → ByteArray → Y16 → (List ByteArray) → Int → ByteArray → Y16 → (List ByteArray) → ByteArray → ByteArray → Option Int
  | 0, _, _, _, _, _, _, _, _, _ => none
  | n + 1, a1, a2, a3, a4, a5, a6, a7, a8, a9 => ((spec_ColAt n a1 a2 a3 a8).bind fun r10 => (bif (a4 == 3) then (bif (inR (0 : Int) a6.length) then (let v11 := (a6.getD (0 : Int).toNat (⟨#[]⟩, (0, (false, (false, (0, (0, ⟨#[]⟩))))))); ((spec_ColAt n a1 a2 a3 v11.1).bind fun r12 => (bif (decide ((0 : Int) ≤ r12)) then (some (5 : Int)) else (bif ((a2.length : Int) == 8) then (some (6 : Int)) else (some (0 : Int)))))) else none) else (bif (a4 == 4) then (bif (decide (r10 < 0)) then (some (7 : Int)) else ((spec_l02Has n a3 a8).bind fun r13 => (bif r13 then (some (8 : Int)) else (some (0 : Int))))) else (bif (a4 == 5) then ((spec_ColAt n a1 a2 a3 a9).bind fun r14 => (bif (decide ((0 : Int) ≤ r14)) then (some (5 : Int)) else (bif (decide (r10 < 0)) then (some (7 : Int)) else (some (0 : Int))))) else (some (0 : Int))))))
def spec_l02Change_L2 (n : Nat) : Nat → Int → Int → Int → ByteArray → Y15 → List ByteArray → ByteArray → ByteArray → ByteArray → Y15 → List ByteArray → ByteArray → Y15 → List ByteArray → Option Y18
  | 0, _, _, _, _, _, _, _, _, _, _, _, _, _, _ => none
  | j + 1, x35, x36, x37, x38, x39, x40, x41, x42, x43, x44, x45, x46, x47, x48 => (bif (decide (x36 < x35)) then (bif (x37 == 5) then (bif (inR x36 x48.length) then (let v49 : ByteArray := (x48.getD x36.toNat ⟨#[]⟩); (bif (v49.toList == x41.toList) then (bif (inR x36 x48.length) then (spec_l02Change_L2 n j x35 (IntKind.wrap .i64 (x36 + 1)) x37 x38 x39 x40 x41 x42 x43 x44 x45 x46 x47 (x48.set x36.toNat x42)) else none) else (spec_l02Change_L2 n j x35 (IntKind.wrap .i64 (x36 + 1)) x37 x38 x39 x40 x41 x42 x43 x44 x45 x46 x47 x48))) else none) else (spec_l02Change_L2 n j x35 (IntKind.wrap .i64 (x36 + 1)) x37 x38 x39 x40 x41 x42 x43 x44 x45 x46 x47 x48)) else (bif (x37 == 3) then (bif (inR (0 : Int) x39.length) then (let v50 := (x39.getD (0 : Int).toNat (⟨#[]⟩, (0, (false, (false, (0, (0, ⟨#[]⟩))))))); (let v51 : Y15 := [(v50.1, (v50.2.1, (v50.2.2.1, (v50.2.2.2.1, (v50.2.2.2.2.1, (v50.2.2.2.2.2.1, v50.2.2.2.2.2.2))))))]; (bif (room (x47.length + v51.length) 64) then (some (x46, ((x47 ++ v51), x48))) else none))) else none) else (some (x46, (x47, x48)))))
def spec_l02Change_L1 (n : Nat) : Nat → Y15 → Int → Int → Int → ByteArray → Y15 → List ByteArray → ByteArray → ByteArray → ByteArray → Y15 → List ByteArray → ByteArray → Y15 → List ByteArray → Option Y18
  | 0, _, _, _, _, _, _, _, _, _, _, _, _, _, _, _ => none
  | j + 1, x13, x14, x15, x16, x17, x18, x19, x20, x21, x22, x23, x24, x25, x26, x27 => (bif (decide (x15 < x14)) then (bif (inR x15 x13.length) then (let v28 := (x13.getD x15.toNat (⟨#[]⟩, (0, (false, (false, (0, (0, ⟨#[]⟩))))))); (bif (x16 == 4) then (bif (v28.1.toList == x20.toList) then (spec_l02Change_L1 n j x13 x14 (IntKind.wrap .i64 (x15 + 1)) x16 x17 x18 x19 x20 x21 x22 x23 x24 x25 x26 x27) else (bif (x16 == 5) then (bif (v28.1.toList == x20.toList) then (let v29 : Y15 := [(x21, (v28.2.1, (v28.2.2.1, (v28.2.2.2.1, (v28.2.2.2.2.1, (v28.2.2.2.2.2.1, v28.2.2.2.2.2.2))))))]; (bif (room (x26.length + v29.length) 64) then (spec_l02Change_L1 n j x13 x14 (IntKind.wrap .i64 (x15 + 1)) x16 x17 x18 x19 x20 x21 x22 x23 x24 x25 (x26 ++ v29) x27) else none)) else (let v30 : Y15 := [(v28.1, (v28.2.1, (v28.2.2.1, (v28.2.2.2.1, (v28.2.2.2.2.1, (v28.2.2.2.2.2.1, v28.2.2.2.2.2.2))))))]; (bif (room (x26.length + v30.length) 64) then (spec_l02Change_L1 n j x13 x14 (IntKind.wrap .i64 (x15 + 1)) x16 x17 x18 x19 x20 x21 x22 x23 x24 x25 (x26 ++ v30) x27) else none))) else (let v31 : Y15 := [(v28.1, (v28.2.1, (v28.2.2.1, (v28.2.2.2.1, (v28.2.2.2.2.1, (v28.2.2.2.2.2.1, v28.2.2.2.2.2.2))))))]; (bif (room (x26.length + v31.length) 64) then (spec_l02Change_L1 n j x13 x14 (IntKind.wrap .i64 (x15 + 1)) x16 x17 x18 x19 x20 x21 x22 x23 x24 x25 (x26 ++ v31) x27) else none)))) else (bif (x16 == 5) then (bif (v28.1.toList == x20.toList) then (let v32 : Y15 := [(x21, (v28.2.1, (v28.2.2.1, (v28.2.2.2.1, (v28.2.2.2.2.1, (v28.2.2.2.2.2.1, v28.2.2.2.2.2.2))))))]; (bif (room (x26.length + v32.length) 64) then (spec_l02Change_L1 n j x13 x14 (IntKind.wrap .i64 (x15 + 1)) x16 x17 x18 x19 x20 x21 x22 x23 x24 x25 (x26 ++ v32) x27) else none)) else (let v33 : Y15 := [(v28.1, (v28.2.1, (v28.2.2.1, (v28.2.2.2.1, (v28.2.2.2.2.1, (v28.2.2.2.2.2.1, v28.2.2.2.2.2.2))))))]; (bif (room (x26.length + v33.length) 64) then (spec_l02Change_L1 n j x13 x14 (IntKind.wrap .i64 (x15 + 1)) x16 x17 x18 x19 x20 x21 x22 x23 x24 x25 (x26 ++ v33) x27) else none))) else (let v34 : Y15 := [(v28.1, (v28.2.1, (v28.2.2.1, (v28.2.2.2.1, (v28.2.2.2.2.1, (v28.2.2.2.2.2.1, v28.2.2.2.2.2.2))))))]; (bif (room (x26.length + v34.length) 64) then (spec_l02Change_L1 n j x13 x14 (IntKind.wrap .i64 (x15 + 1)) x16 x17 x18 x19 x20 x21 x22 x23 x24 x25 (x26 ++ v34) x27) else none))))) else none) else (spec_l02Change_L2 n n (x27.length : Int) (0 : Int) x16 x17 x18 x19 x20 x21 x22 x23 x24 x25 x26 x27))
/-- loop.example/g00462/spec.l02Change -/
def spec_l02Change : Nat → ByteArray → Y16 → (List ByteArray) → Int → ByteArray → Y16 → (List ByteArray) → ByteArray → ByteArray → Option Y18
  | 0, _, _, _, _, _, _, _, _, _ => none
  | n + 1, a1, a2, a3, a4, a5, a6, a7, a8, a9 => (let v10 : Y15 := []; (bif (room (([] : List ByteArray).length + a3.length) 16) then (let v11 : Y15 := []; (let v12 : Y15 := []; (spec_l02Change_L1 n n a2 (a2.length : Int) (0 : Int) a4 a5 a6 a7 a8 a9 (⟨#[]⟩ : ByteArray) v10 ([] : List ByteArray) a1 v11 (([] : List ByteArray) ++ a3)))) else none))
/-- loop.example/g00462/spec.DdlApply -/
def spec_DdlApply : Nat → Y20 → Int → ByteArray → Y16 → (List ByteArray) → ByteArray → ByteArray → Option Y23
  | 0, _, _, _, _, _, _, _ => none
  | n + 1, a1, a2, a3, a4, a5, a6, a7 => (let v8 : Y19 := []; ((spec_CatOk n a1).bind fun r9 => (bif (!r9) then (let v10 : Y19 := []; (some (v10, ((1 : Int), ())))) else ((spec_DdlOk n a2 a3 a4 a5 a6 a7).bind fun r11 => (bif (!r11) then (let v12 : Y19 := []; (some (v12, ((1 : Int), ())))) else ((spec_l02At n a1 a3).bind fun r13 => ((spec_l02Copy n a1).bind fun r14 => (let v15 : Y19 := []; (bif (a2 == 1) then (bif (decide ((0 : Int) ≤ r13)) then (let v16 : Y19 := []; (some (v16, ((2 : Int), ())))) else (bif ((a1.length : Int) == 6) then (let v17 : Y19 := []; (some (v17, ((3 : Int), ())))) else ((spec_l02Table n a3 a4 a5).bind fun r18 => ((spec_l02Put n r14 r18.1 r18.2.1 r18.2.2).bind fun r19 => (some (r19, ((0 : Int), ()))))))) else (bif (decide (r13 < 0)) then (let v20 : Y19 := []; (some (v20, ((4 : Int), ())))) else (bif (inR r13 a1.length) then (let v21 := (a1.getD r13.toNat (⟨#[]⟩, ([], []))); ((spec_l02Fault n v21.1 v21.2.1 v21.2.2 a2 a3 a4 a5 a6 a7).bind fun r22 => (bif (r22 != 0) then (let v23 : Y19 := []; (some (v23, (r22, ())))) else (bif (a2 == 2) then (let v24 : Y19 := []; (bif (decide (0 ≤ ((0 : Nat) : Int) ∧ ((0 : Nat) : Int) ≤ r13 ∧ r13 ≤ (r14.length : Int))) then (bif (room (v24.length + ((r14.drop ((0 : Nat) : Int).toNat).take (r13.toNat - ((0 : Nat) : Int).toNat)).length) 64) then (let v25 := (v24 ++ ((r14.drop ((0 : Nat) : Int).toNat).take (r13.toNat - ((0 : Nat) : Int).toNat))); (bif (decide (0 ≤ (IntKind.wrap .i64 (r13 + 1)) ∧ (IntKind.wrap .i64 (r13 + 1)) ≤ ((r14.length : Nat) : Int) ∧ ((r14.length : Nat) : Int) ≤ (r14.length : Int))) then (bif (room (v25.length + ((r14.drop (IntKind.wrap .i64 (r13 + 1)).toNat).take (((r14.length : Nat) : Int).toNat - (IntKind.wrap .i64 (r13 + 1)).toNat)).length) 64) then (let v26 := (v25 ++ ((r14.drop (IntKind.wrap .i64 (r13 + 1)).toNat).take (((r14.length : Nat) : Int).toNat - (IntKind.wrap .i64 (r13 + 1)).toNat))); (some (v26, ((0 : Int), ())))) else none) else none)) else none) else none)) else (bif (inR r13 a1.length) then (let v27 := (a1.getD r13.toNat (⟨#[]⟩, ([], []))); ((spec_l02Change n v27.1 v27.2.1 v27.2.2 a2 a3 a4 a5 a6 a7).bind fun r28 => (bif (inR r13 r14.length) then (let v29 := (r14.set r13.toNat (r28.1, (r28.2.1, r28.2.2))); (some (v29, ((0 : Int), ())))) else none))) else none))))) else none)))))))))))
def spec_l03SameVals_L1 (n : Nat) : Nat → Y2 → Y2 → Int → Int → Option Bool
  | 0, _, _, _, _ => none
  | j + 1, x4, x5, x6, x7 => (bif (decide (x7 < x6)) then (bif (inR x7 x4.length) then (let v8 := (x4.getD x7.toNat (0, (0, ⟨#[]⟩))); (bif (inR x7 x5.length) then (let v9 := (x5.getD x7.toNat (0, (0, ⟨#[]⟩))); (let v10 : Bool := (!((v8.1 == v9.1) && ((v8.2.1 == v9.2.1) && ((v8.2.2.toList == v9.2.2.toList) && true)))); (bif v10 then (some false) else (spec_l03SameVals_L1 n j x4 x5 x6 (IntKind.wrap .i64 (x7 + 1)))))) else none)) else none) else (some true))
/-- loop.example/g00462/spec.l03SameVals -/
def spec_l03SameVals : Nat → Y3 → Y3 → Option Bool
  | 0, _, _ => none
  | n + 1, a1, a2 => (let v3 : Bool := ((a1.length : Int) != (a2.length : Int)); (bif v3 then (some false) else (spec_l03SameVals_L1 n n a1 a2 (a1.length : Int) (0 : Int))))
def spec_RowAt_L1 (n : Nat) : Nat → Y2 → Y5 → Int → Int → ByteArray → Y15 → List ByteArray → Option Int
  | 0, _, _, _, _, _, _, _ => none
  | j + 1, x7, x8, x9, x10, x11, x12, x13 => (bif (decide (x10 < x9)) then (bif (inR x10 x8.length) then (let v14 := (x8.getD x10.toNat []); ((spec_l03Key n x11 x12 x13 v14).bind fun r15 => ((spec_l03SameVals n r15 x7).bind fun r16 => (bif r16 then (some x10) else (spec_RowAt_L1 n j x7 x8 x9 (IntKind.wrap .i64 (x10 + 1)) x11 x12 x13))))) else none) else (some (-1 : Int)))
/-- loop.example/g00462/spec.RowAt -/
def spec_RowAt : Nat → ByteArray → Y16 → (List ByteArray) → Y6 → Y3 → Option Int
  | 0, _, _, _, _, _ => none
  | n + 1, a1, a2, a3, a4, a5 => ((spec_RowsOk n a1 a2 a3 a4).bind fun r6 => (bif (!r6) then (some (-1 : Int)) else (spec_RowAt_L1 n n a5 a4 (a4.length : Int) (0 : Int) a1 a2 a3)))
def spec_l03Lay_L1 (n : Nat) : Nat → Bool → Y5 → Int → Int → ByteArray → Y15 → List ByteArray → Y2 → Y5 → Option Y6
  | 0, _, _, _, _, _, _, _, _, _ => none
  | j + 1, x8, x9, x10, x11, x12, x13, x14, x15, x16 => (bif (decide (x11 < x10)) then (bif (inR x11 x9.length) then (let v17 := (x9.getD x11.toNat []); (bif (!x8) then ((spec_l03Key n x12 x13 x14 x15).bind fun r18 => ((spec_l03Key n x12 x13 x14 v17).bind fun r19 => ((spec_KeyLess n r18 r19).bind fun r20 => (bif r20 then ((spec_l03Row n x15).bind fun r21 => (let v22 : Y5 := [r21]; (bif (room (x16.length + v22.length) 24) then ((spec_l03Row n v17).bind fun r23 => (let v24 : Y5 := [r23]; (bif (room ((x16 ++ v22).length + v24.length) 24) then (spec_l03Lay_L1 n j true x9 x10 (IntKind.wrap .i64 (x11 + 1)) x12 x13 x14 x15 ((x16 ++ v22) ++ v24)) else none))) else none))) else ((spec_l03Row n v17).bind fun r25 => (let v26 : Y5 := [r25]; (bif (room (x16.length + v26.length) 24) then (spec_l03Lay_L1 n j x8 x9 x10 (IntKind.wrap .i64 (x11 + 1)) x12 x13 x14 x15 (x16 ++ v26)) else none))))))) else ((spec_l03Row n v17).bind fun r27 => (let v28 : Y5 := [r27]; (bif (room (x16.length + v28.length) 24) then (spec_l03Lay_L1 n j x8 x9 x10 (IntKind.wrap .i64 (x11 + 1)) x12 x13 x14 x15 (x16 ++ v28)) else none))))) else none) else (bif (!x8) then ((spec_l03Row n x15).bind fun r29 => (let v30 : Y5 := [r29]; (bif (room (x16.length + v30.length) 24) then (some (x16 ++ v30)) else none))) else (some x16)))
/-- loop.example/g00462/spec.l03Lay -/
def spec_l03Lay : Nat → ByteArray → Y16 → (List ByteArray) → Y6 → Y3 → Option Y6
  | 0, _, _, _, _, _ => none
  | n + 1, a1, a2, a3, a4, a5 => (let v6 : Y5 := []; (let v7 : Y5 := []; (spec_l03Lay_L1 n n false a4 (a4.length : Int) (0 : Int) a1 a2 a3 a5 v7)))
/-- loop.example/g00462/spec.RowPut -/
def spec_RowPut : Nat → ByteArray → Y16 → (List ByteArray) → Y6 → Y3 → Option Y13
  | 0, _, _, _, _, _ => none
  | n + 1, a1, a2, a3, a4, a5 => (let v6 : Y5 := []; ((spec_RowsOk n a1 a2 a3 a4).bind fun r7 => (bif (!r7) then (let v8 : Y5 := []; (some (v8, ((1 : Int), ())))) else ((spec_RowOk n a1 a2 a3 a5).bind fun r9 => (bif (!r9) then (let v10 : Y5 := []; (some (v10, ((2 : Int), ())))) else ((spec_l03Key n a1 a2 a3 a5).bind fun r11 => ((spec_RowAt n a1 a2 a3 a4 r11).bind fun r12 => (bif (decide ((0 : Int) ≤ r12)) then (let v13 : Y5 := []; (some (v13, ((3 : Int), ())))) else (bif ((a4.length : Int) == 60) then (let v14 : Y5 := []; (some (v14, ((4 : Int), ())))) else ((spec_l03Lay n a1 a2 a3 a4 a5).bind fun r15 => (some (r15, ((0 : Int), ())))))))))))))
def spec_KeyOk_L1 (n : Nat) : Nat → Y2 → List ByteArray → Int → Int → ByteArray → Y15 → List ByteArray → Option Bool
  | 0, _, _, _, _, _, _, _ => none
  | j + 1, x7, x8, x9, x10, x11, x12, x13 => (bif (decide (x10 < x9)) then (bif (inR x10 x8.length) then ((spec_ColAt n x11 x12 x13 (x8.getD x10.toNat ⟨#[]⟩)).bind fun r14 => (bif (inR r14 x12.length) then (let v15 := (x12.getD r14.toNat (⟨#[]⟩, (0, (false, (false, (0, (0, ⟨#[]⟩))))))); (bif (inR x10 x7.length) then (let v16 := (x7.getD x10.toNat (0, (0, ⟨#[]⟩))); ((spec_l03Fits n v15.1 v15.2.1 v15.2.2.1 v15.2.2.2.1 v15.2.2.2.2.1 v15.2.2.2.2.2.1 v15.2.2.2.2.2.2 v16.1 v16.2.1 v16.2.2).bind fun r17 => (bif (!r17) then (some false) else (spec_KeyOk_L1 n j x7 x8 x9 (IntKind.wrap .i64 (x10 + 1)) x11 x12 x13)))) else none)) else none)) else none) else (some true))
/-- loop.example/g00462/spec.KeyOk -/
def spec_KeyOk : Nat → ByteArray → Y16 → (List ByteArray) → Y3 → Option Bool
  | 0, _, _, _, _ => none
  | n + 1, a1, a2, a3, a4 => ((spec_TableOk n a1 a2 a3).bind fun r5 => (bif (!r5) then (some false) else (let v6 : Bool := ((a4.length : Int) != (a3.length : Int)); (bif v6 then (some false) else (spec_KeyOk_L1 n n a4 a3 (a3.length : Int) (0 : Int) a1 a2 a3)))))
def spec_l03Without_L1 (n : Nat) : Nat → Int → Y5 → Int → Int → Y5 → Option Y6
  | 0, _, _, _, _, _ => none
  | j + 1, x5, x6, x7, x8, x9 => (bif (decide (x8 < x7)) then (bif (inR x8 x6.length) then (let v10 := (x6.getD x8.toNat []); (bif (x8 != x5) then ((spec_l03Row n v10).bind fun r11 => (let v12 : Y5 := [r11]; (bif (room (x9.length + v12.length) 24) then (spec_l03Without_L1 n j x5 x6 x7 (IntKind.wrap .i64 (x8 + 1)) (x9 ++ v12)) else none))) else (spec_l03Without_L1 n j x5 x6 x7 (IntKind.wrap .i64 (x8 + 1)) x9))) else none) else (some x9))
/-- loop.example/g00462/spec.l03Without -/
def spec_l03Without : Nat → Y6 → Int → Option Y6
  | 0, _, _ => none
  | n + 1, a1, a2 => (let v3 : Y5 := []; (let v4 : Y5 := []; (spec_l03Without_L1 n n a2 a1 (a1.length : Int) (0 : Int) v4)))
/-- loop.example/g00462/spec.RowSet -/
def spec_RowSet : Nat → ByteArray → Y16 → (List ByteArray) → Y6 → Y3 → Y3 → Option Y13
  | 0, _, _, _, _, _, _ => none
  | n + 1, a1, a2, a3, a4, a5, a6 => (let v7 : Y5 := []; ((spec_RowsOk n a1 a2 a3 a4).bind fun r8 => (bif (!r8) then (let v9 : Y5 := []; (some (v9, ((1 : Int), ())))) else ((spec_RowOk n a1 a2 a3 a6).bind fun r10 => (bif (!r10) then (let v11 : Y5 := []; (some (v11, ((2 : Int), ())))) else ((spec_RowAt n a1 a2 a3 a4 a5).bind fun r12 => ((spec_KeyOk n a1 a2 a3 a5).bind fun r13 => (bif (!r13) then (let v14 : Y5 := []; (some (v14, ((5 : Int), ())))) else (bif (decide (r12 < 0)) then (let v15 : Y5 := []; (some (v15, ((5 : Int), ())))) else ((spec_l03Without n a4 r12).bind fun r16 => ((spec_l03Key n a1 a2 a3 a6).bind fun r17 => ((spec_RowAt n a1 a2 a3 r16 r17).bind fun r18 => (bif (decide ((0 : Int) ≤ r18)) then (let v19 : Y5 := []; (some (v19, ((3 : Int), ())))) else ((spec_l03Lay n a1 a2 a3 r16 a6).bind fun r20 => (some (r20, ((0 : Int), ())))))))))))))))))
/-- loop.example/g00462/spec.RowOut -/
def spec_RowOut : Nat → ByteArray → Y16 → (List ByteArray) → Y6 → Y3 → Option Y13
  | 0, _, _, _, _, _ => none
  | n + 1, a1, a2, a3, a4, a5 => (let v6 : Y5 := []; ((spec_RowsOk n a1 a2 a3 a4).bind fun r7 => (bif (!r7) then (let v8 : Y5 := []; (some (v8, ((1 : Int), ())))) else ((spec_RowAt n a1 a2 a3 a4 a5).bind fun r9 => ((spec_KeyOk n a1 a2 a3 a5).bind fun r10 => (bif (!r10) then (let v11 : Y5 := []; (some (v11, ((5 : Int), ())))) else (bif (decide (r9 < 0)) then (let v12 : Y5 := []; (some (v12, ((5 : Int), ())))) else ((spec_l03Without n a4 r9).bind fun r13 => (some (r13, ((0 : Int), ())))))))))))
def spec_RowsDdl_L2 (n : Nat) (k0 : Int → Y5 → Int → Int → Int → ByteArray → Y15 → List ByteArray → ByteArray → ByteArray → Y5 → Option Y13) : Nat → Int → Y5 → Int → Int → Y2 → Int → Int → Int → ByteArray → Y15 → List ByteArray → ByteArray → ByteArray → Y5 → Y2 → Option Y13
  | 0, _, _, _, _, _, _, _, _, _, _, _, _, _, _, _ => none
  | j + 1, x36, x37, x38, x39, x40, x41, x42, x43, x44, x45, x46, x47, x48, x49, x50 => (bif (decide (x42 < x41)) then (bif (inR x42 x40.length) then (let v51 := (x40.getD x42.toNat (0, (0, ⟨#[]⟩))); (bif (x43 != 4) then (let v52 : Y2 := [(v51.1, (v51.2.1, v51.2.2))]; (bif (room (x50.length + v52.length) 32) then (spec_RowsDdl_L2 n k0 j x36 x37 x38 x39 x40 x41 (IntKind.wrap .i64 (x42 + 1)) x43 x44 x45 x46 x47 x48 x49 (x50 ++ v52)) else none)) else (bif (x42 != x36) then (let v53 : Y2 := [(v51.1, (v51.2.1, v51.2.2))]; (bif (room (x50.length + v53.length) 32) then (spec_RowsDdl_L2 n k0 j x36 x37 x38 x39 x40 x41 (IntKind.wrap .i64 (x42 + 1)) x43 x44 x45 x46 x47 x48 x49 (x50 ++ v53)) else none)) else (spec_RowsDdl_L2 n k0 j x36 x37 x38 x39 x40 x41 (IntKind.wrap .i64 (x42 + 1)) x43 x44 x45 x46 x47 x48 x49 x50)))) else none) else (bif (x43 == 3) then (bif (inR (0 : Int) x45.length) then (let v54 := (x45.getD (0 : Int).toNat (⟨#[]⟩, (0, (false, (false, (0, (0, ⟨#[]⟩))))))); (let v55 : Y2 := [(v54.2.2.2.2.1, (v54.2.2.2.2.2.1, v54.2.2.2.2.2.2))]; (bif (room (x50.length + v55.length) 32) then (bif (x43 != 2) then (let v56 : Y5 := [(x50 ++ v55)]; (bif (room (x49.length + v56.length) 24) then (k0 x36 x37 x38 (IntKind.wrap .i64 (x39 + 1)) x43 x44 x45 x46 x47 x48 (x49 ++ v56)) else none)) else (k0 x36 x37 x38 (IntKind.wrap .i64 (x39 + 1)) x43 x44 x45 x46 x47 x48 x49)) else none))) else none) else (bif (x43 != 2) then (let v57 : Y5 := [x50]; (bif (room (x49.length + v57.length) 24) then (k0 x36 x37 x38 (IntKind.wrap .i64 (x39 + 1)) x43 x44 x45 x46 x47 x48 (x49 ++ v57)) else none)) else (k0 x36 x37 x38 (IntKind.wrap .i64 (x39 + 1)) x43 x44 x45 x46 x47 x48 x49))))
def spec_RowsDdl_L1 (n : Nat) : Nat → Int → Y5 → Int → Int → Int → ByteArray → Y15 → List ByteArray → ByteArray → ByteArray → Y5 → Option Y13
  | 0, _, _, _, _, _, _, _, _, _, _, _ => none
  | j + 1, x24, x25, x26, x27, x28, x29, x30, x31, x32, x33, x34 => (bif (decide (x27 < x26)) then (bif (inR x27 x25.length) then (let v35 := (x25.getD x27.toNat []); (spec_RowsDdl_L2 n (fun y58 y59 y60 y61 y62 y63 y64 y65 y66 y67 y68 => spec_RowsDdl_L1 n j y58 y59 y60 y61 y62 y63 y64 y65 y66 y67 y68) n x24 x25 x26 x27 v35 (v35.length : Int) (0 : Int) x28 x29 x30 x31 x32 x33 x34 ([] : Y2))) else none) else (some (x34, ((0 : Int), ()))))
/-- loop.example/g00462/spec.RowsDdl -/
def spec_RowsDdl : Nat → ByteArray → Y16 → (List ByteArray) → Y6 → Int → ByteArray → Y16 → (List ByteArray) → ByteArray → ByteArray → Option Y13
  | 0, _, _, _, _, _, _, _, _, _, _ => none
  | n + 1, a1, a2, a3, a4, a5, a6, a7, a8, a9, a10 => (let v11 : Y5 := []; ((spec_RowsOk n a1 a2 a3 a4).bind fun r12 => (bif (!r12) then (let v13 : Y5 := []; (some (v13, ((1 : Int), ())))) else ((spec_DdlOk n a5 a6 a7 a8 a9 a10).bind fun r14 => (bif (!r14) then (let v15 : Y5 := []; (some (v15, ((1 : Int), ())))) else (bif (!(a6.toList == a1.toList)) then (let v16 : Y5 := []; (some (v16, ((1 : Int), ())))) else (bif (a5 == 1) then (let v17 : Y5 := []; (some (v17, ((1 : Int), ())))) else (let v18 : Y19 := [(a1, (a2, a3))]; ((spec_DdlApply n v18 a5 a6 a7 a8 a9 a10).bind fun r19 => (let v20 : Y19 := []; (bif (r19.2.1 != 0) then (let v21 : Y5 := []; (some (v21, (r19.2.1, ())))) else (let v22 : Y5 := []; ((spec_ColAt n a1 a2 a3 a9).bind fun r23 => (spec_RowsDdl_L1 n n r23 a4 (a4.length : Int) (0 : Int) a5 a6 a7 a8 a9 a10 v22))))))))))))))
/-- loop.example/g00462/spec.l04Rows -/
def spec_l04Rows : Nat → ByteArray → Y16 → (List ByteArray) → Y6 → Int → ByteArray → Y3 → Y3 → Int → ByteArray → Y16 → (List ByteArray) → ByteArray → ByteArray → Option Y13
  | 0, _, _, _, _, _, _, _, _, _, _, _, _, _, _ => none
  | n + 1, a1, a2, a3, a4, a5, a6, a7, a8, a9, a10, a11, a12, a13, a14 => (let v15 : Y5 := []; (bif (a5 == 1) then ((spec_RowPut n a1 a2 a3 a4 a8).bind fun r16 => (some (r16.1, (r16.2.1, ())))) else (bif (a5 == 2) then ((spec_RowSet n a1 a2 a3 a4 a7 a8).bind fun r17 => (some (r17.1, (r17.2.1, ())))) else (bif (a5 == 3) then ((spec_RowOut n a1 a2 a3 a4 a7).bind fun r18 => (some (r18.1, (r18.2.1, ())))) else (bif (a5 == 5) then ((spec_RowsDdl n a1 a2 a3 a4 a9 a10 a11 a12 a13 a14).bind fun r19 => (some (r19.1, (r19.2.1, ())))) else (let v20 : Y5 := []; (some (v20, ((0 : Int), ())))))))))
def spec_l04Change_L1 (n : Nat) : Nat → Y19 → Int → Int → Y19 → Y8 → Int → ByteArray → Y2 → Y2 → Int → ByteArray → Y15 → List ByteArray → ByteArray → ByteArray → Y19 → Y8 → Y19 → Y8 → Option (Y27 × (Int × Unit))
  | 0, _, _, _, _, _, _, _, _, _, _, _, _, _, _, _, _, _, _, _ => none
  | j + 1, x23, x24, x25, x26, x27, x28, x29, x30, x31, x32, x33, x34, x35, x36, x37, x38, x39, x40, x41 => (bif (decide (x25 < x24)) then (bif (inR x25 x23.length) then (let v42 := (x23.getD x25.toNat (⟨#[]⟩, ([], []))); (let v43 : Y15 := []; (let v44 : Y5 := []; (let v45 : Y5 := []; ((spec_l02At n x26 v42.1).bind fun r46 => (bif (decide ((0 : Int) ≤ r46)) then (bif (v42.1.toList == x29.toList) then (bif (inR r46 x26.length) then (let v47 := (x26.getD r46.toNat (⟨#[]⟩, ([], []))); (bif (inR r46 x27.length) then (let v48 := (x27.getD r46.toNat []); ((spec_l04Rows n v47.1 v47.2.1 v47.2.2 v48 x28 x29 x30 x31 x32 x33 x34 x35 x36 x37).bind fun r49 => (let v50 : Y8 := [r49.1]; (bif (room (x41.length + v50.length) 24) then (spec_l04Change_L1 n j x23 x24 (IntKind.wrap .i64 (x25 + 1)) x26 x27 x28 x29 x30 x31 x32 x33 x34 x35 x36 x37 x38 x39 x40 (x41 ++ v50)) else none)))) else none)) else none) else (bif (decide ((0 : Int) ≤ r46)) then (bif (inR r46 x27.length) then (let v51 := (x27.getD r46.toNat []); ((spec_l03Copy n v51).bind fun r52 => (let v53 : Y8 := [r52]; (bif (room (x41.length + v53.length) 24) then (spec_l04Change_L1 n j x23 x24 (IntKind.wrap .i64 (x25 + 1)) x26 x27 x28 x29 x30 x31 x32 x33 x34 x35 x36 x37 x38 x39 x40 (x41 ++ v53)) else none)))) else none) else (let v54 : Y8 := [v44]; (bif (room (x41.length + v54.length) 24) then (spec_l04Change_L1 n j x23 x24 (IntKind.wrap .i64 (x25 + 1)) x26 x27 x28 x29 x30 x31 x32 x33 x34 x35 x36 x37 x38 x39 x40 (x41 ++ v54)) else none)))) else (bif (decide ((0 : Int) ≤ r46)) then (bif (inR r46 x27.length) then (let v55 := (x27.getD r46.toNat []); ((spec_l03Copy n v55).bind fun r56 => (let v57 : Y8 := [r56]; (bif (room (x41.length + v57.length) 24) then (spec_l04Change_L1 n j x23 x24 (IntKind.wrap .i64 (x25 + 1)) x26 x27 x28 x29 x30 x31 x32 x33 x34 x35 x36 x37 x38 x39 x40 (x41 ++ v57)) else none)))) else none) else (let v58 : Y8 := [v44]; (bif (room (x41.length + v58.length) 24) then (spec_l04Change_L1 n j x23 x24 (IntKind.wrap .i64 (x25 + 1)) x26 x27 x28 x29 x30 x31 x32 x33 x34 x35 x36 x37 x38 x39 x40 (x41 ++ v58)) else none))))))))) else none) else (some ((x40, x41), ((0 : Int), ()))))
/-- loop.example/g00462/spec.l04Change -/
def spec_l04Change : Nat → Y20 → Y10 → Int → ByteArray → Y3 → Y3 → Int → ByteArray → Y16 → (List ByteArray) → ByteArray → ByteArray → Option (Y27 × (Int × Unit))
  | 0, _, _, _, _, _, _, _, _, _, _, _, _ => none
  | n + 1, a1, a2, a3, a4, a5, a6, a7, a8, a9, a10, a11, a12 => (let v13 : Y19 := []; let v14 : Y8 := []; ((spec_DdlApply n a1 a7 a8 a9 a10 a11 a12).bind fun r15 => (let v16 : Y19 := []; (bif (r15.2.1 != 0) then (let v17 : Y19 := []; let v18 : Y8 := []; (let v19 : Int := (IntKind.wrap .i64 ((10 : Int) + r15.2.1)); (some ((v17, v18), (v19, ()))))) else (let v20 : Y8 := []; (let v21 : Y19 := []; let v22 : Y8 := []; (spec_l04Change_L1 n n r15.1 (r15.1.length : Int) (0 : Int) a1 a2 a3 a4 a5 a6 a7 a8 a9 a10 a11 a12 v13 v14 r15.1 v20)))))))
/-- loop.example/g00462/spec.Exec -/
def spec_Exec : Nat → Y20 → Y10 → Int → ByteArray → Y3 → Y3 → Int → ByteArray → Y16 → (List ByteArray) → ByteArray → ByteArray → Option (Y27 × (Int × Unit))
  | 0, _, _, _, _, _, _, _, _, _, _, _, _ => none
  | n + 1, a1, a2, a3, a4, a5, a6, a7, a8, a9, a10, a11, a12 => (let v13 : Y19 := []; let v14 : Y8 := []; ((spec_DbOk n a1 a2).bind fun r15 => (bif (!r15) then (let v16 : Y19 := []; let v17 : Y8 := []; (some ((v16, v17), ((1 : Int), ())))) else ((spec_StmtOk n a3 a4 a5 a6 a7 a8 a9 a10 a11 a12).bind fun r18 => (bif (!r18) then (let v19 : Y19 := []; let v20 : Y8 := []; (some ((v19, v20), ((1 : Int), ())))) else ((spec_l02At n a1 a4).bind fun r21 => (bif (decide (r21 < 0)) then (bif (a3 != 5) then (let v22 : Y19 := []; let v23 : Y8 := []; (some ((v22, v23), ((4 : Int), ())))) else (bif (a7 != 1) then (let v24 : Y19 := []; let v25 : Y8 := []; (some ((v24, v25), ((4 : Int), ())))) else (bif (a3 == 5) then ((spec_l04Change n a1 a2 a3 a4 a5 a6 a7 a8 a9 a10 a11 a12).bind fun r26 => (some ((r26.1.1, r26.1.2), (r26.2.1, ())))) else (bif (inR r21 a1.length) then (let v27 := (a1.getD r21.toNat (⟨#[]⟩, ([], []))); (bif (inR r21 a2.length) then (let v28 := (a2.getD r21.toNat []); ((spec_l04Rows n v27.1 v27.2.1 v27.2.2 v28 a3 a4 a5 a6 a7 a8 a9 a10 a11 a12).bind fun r29 => (bif (r29.2.1 != 0) then (let v30 : Y19 := []; let v31 : Y8 := []; (let v32 : Int := (IntKind.wrap .i64 ((10 : Int) + r29.2.1)); (some ((v30, v31), (v32, ()))))) else ((spec_l04Copy n a1 a2).bind fun r33 => (let v34 : Y19 := []; let v35 : Y8 := []; (bif (inR r21 r33.2.length) then (some ((r33.1, (r33.2.set r21.toNat r29.1)), ((0 : Int), ()))) else none)))))) else none)) else none)))) else (bif (a3 == 5) then ((spec_l04Change n a1 a2 a3 a4 a5 a6 a7 a8 a9 a10 a11 a12).bind fun r36 => (some ((r36.1.1, r36.1.2), (r36.2.1, ())))) else (bif (inR r21 a1.length) then (let v37 := (a1.getD r21.toNat (⟨#[]⟩, ([], []))); (bif (inR r21 a2.length) then (let v38 := (a2.getD r21.toNat []); ((spec_l04Rows n v37.1 v37.2.1 v37.2.2 v38 a3 a4 a5 a6 a7 a8 a9 a10 a11 a12).bind fun r39 => (bif (r39.2.1 != 0) then (let v40 : Y19 := []; let v41 : Y8 := []; (let v42 : Int := (IntKind.wrap .i64 ((10 : Int) + r39.2.1)); (some ((v40, v41), (v42, ()))))) else ((spec_l04Copy n a1 a2).bind fun r43 => (let v44 : Y19 := []; let v45 : Y8 := []; (bif (inR r21 r43.2.length) then (some ((r43.1, (r43.2.set r21.toNat r39.1)), ((0 : Int), ()))) else none)))))) else none)) else none)))))))))
def spec_ExecAll_L1 (n : Nat) : Nat → Int → Int → Y19 → Y8 → Y19 → Y8 → Y32 → Option (Y27 × (Int × (Int × Unit)))
  | 0, _, _, _, _, _, _, _ => none
  | j + 1, x12, x13, x14, x15, x16, x17, x18 => (bif (decide (x13 < x12)) then (bif (inR x13 x18.length) then (let v19 : Int := (x18.getD x13.toNat (0, (⟨#[]⟩, ([], ([], (0, (⟨#[]⟩, ([], ([], (⟨#[]⟩, ⟨#[]⟩)))))))))).1; let v20 : ByteArray := (x18.getD x13.toNat (0, (⟨#[]⟩, ([], ([], (0, (⟨#[]⟩, ([], ([], (⟨#[]⟩, ⟨#[]⟩)))))))))).2.1; let v21 := (x18.getD x13.toNat (0, (⟨#[]⟩, ([], ([], (0, (⟨#[]⟩, ([], ([], (⟨#[]⟩, ⟨#[]⟩)))))))))).2.2.1; let v22 := (x18.getD x13.toNat (0, (⟨#[]⟩, ([], ([], (0, (⟨#[]⟩, ([], ([], (⟨#[]⟩, ⟨#[]⟩)))))))))).2.2.2.1; let v23 : Int := (x18.getD x13.toNat (0, (⟨#[]⟩, ([], ([], (0, (⟨#[]⟩, ([], ([], (⟨#[]⟩, ⟨#[]⟩)))))))))).2.2.2.2.1; let v24 : ByteArray := (x18.getD x13.toNat (0, (⟨#[]⟩, ([], ([], (0, (⟨#[]⟩, ([], ([], (⟨#[]⟩, ⟨#[]⟩)))))))))).2.2.2.2.2.1; let v25 := (x18.getD x13.toNat (0, (⟨#[]⟩, ([], ([], (0, (⟨#[]⟩, ([], ([], (⟨#[]⟩, ⟨#[]⟩)))))))))).2.2.2.2.2.2.1; let v26 := (x18.getD x13.toNat (0, (⟨#[]⟩, ([], ([], (0, (⟨#[]⟩, ([], ([], (⟨#[]⟩, ⟨#[]⟩)))))))))).2.2.2.2.2.2.2.1; let v27 : ByteArray := (x18.getD x13.toNat (0, (⟨#[]⟩, ([], ([], (0, (⟨#[]⟩, ([], ([], (⟨#[]⟩, ⟨#[]⟩)))))))))).2.2.2.2.2.2.2.2.1; let v28 : ByteArray := (x18.getD x13.toNat (0, (⟨#[]⟩, ([], ([], (0, (⟨#[]⟩, ([], ([], (⟨#[]⟩, ⟨#[]⟩)))))))))).2.2.2.2.2.2.2.2.2; (let v29 : Y15 := []; ((spec_Exec n x16 x17 v19 v20 v21 v22 v23 v24 v25 v26 v27 v28).bind fun r30 => (let v31 : Y19 := []; let v32 : Y8 := []; (bif (r30.2.1 != 0) then (let v33 : Y19 := []; let v34 : Y8 := []; (some ((v33, v34), (r30.2.1, (x13, ()))))) else (spec_ExecAll_L1 n j x12 (IntKind.wrap .i64 (x13 + 1)) x14 x15 r30.1.1 r30.1.2 x18)))))) else none) else (some ((x16, x17), ((0 : Int), ((0 : Int), ())))))
/-- loop.example/g00462/spec.ExecAll -/
def spec_ExecAll : Nat → Y20 → Y10 → Y33 → Option (Y27 × (Int × (Int × Unit)))
  | 0, _, _, _ => none
  | n + 1, a1, a2, a3 => (let v4 : Y19 := []; let v5 : Y8 := []; ((spec_DbOk n a1 a2).bind fun r6 => (bif (!r6) then (let v7 : Y19 := []; let v8 : Y8 := []; (some ((v7, v8), ((1 : Int), ((0 : Int), ()))))) else ((spec_l04Copy n a1 a2).bind fun r9 => (let v10 : Y19 := []; let v11 : Y8 := []; (spec_ExecAll_L1 n n (a3.length : Int) (0 : Int) v4 v5 r9.1 r9.2 a3))))))
/-- loop.example/g00462/impl.within -/
def impl_within : Nat → Int → Int → Int → Option Bool
  | 0, _, _, _ => none
  | n + 1, a1, a2, a3 => (bif (decide (a2 ≤ a1)) then (some (decide (a1 ≤ a3))) else (some false))
def impl_WordOk_L1 (n : Nat) : Nat → ByteArray → Int → Option Bool
  | 0, _, _ => none
  | j + 1, x2, x3 => (bif (decide (x3 < (x2.size : Int))) then (bif (inR x3 x2.size) then (bif (decide ((bt x2 x3) < 97)) then (some false) else (bif (inR x3 x2.size) then (bif (decide ((122 : Int) < (bt x2 x3))) then (some false) else (impl_WordOk_L1 n j x2 (IntKind.wrap .i64 (x3 + 1)))) else none)) else none) else ((impl_within n (x2.size : Int) (1 : Int) (8 : Int)).bind fun r4 => (some r4)))
/-- loop.example/g00462/impl.WordOk -/
def impl_WordOk : Nat → ByteArray → Option Bool
  | 0, _ => none
  | n + 1, a1 => (impl_WordOk_L1 n n a1 (0 : Int))
/-- loop.example/g00462/impl.ValOk -/
def impl_ValOk : Nat → Int → Int → ByteArray → Option Bool
  | 0, _, _, _ => none
  | n + 1, a1, a2, a3 => (bif (a1 == 0) then (let v4 : Bool := ((a1 == 0) && ((a2 == 0) && ((a3.toList == (⟨#[]⟩ : ByteArray).toList) && true))); (some v4)) else (bif (a1 == 1) then ((impl_within n a2 (0 : Int) (1 : Int)).bind fun r5 => (bif r5 then (let v6 : Bool := (a3.toList == (⟨#[]⟩ : ByteArray).toList); (some v6)) else (some false))) else (bif (a1 == 2) then ((impl_within n a2 (-1099511627775 : Int) (1099511627775 : Int)).bind fun r7 => (bif r7 then (let v8 : Bool := (a3.toList == (⟨#[]⟩ : ByteArray).toList); (some v8)) else (some false))) else (bif (a1 == 3) then (bif (a2 == 0) then (some (decide ((a3.size : Int) ≤ 30))) else (some false)) else (some false)))))
/-- loop.example/g00462/impl.ColOk -/
def impl_ColOk : Nat → ByteArray → Int → Bool → Bool → Int → Int → ByteArray → Option Bool
  | 0, _, _, _, _, _, _, _ => none
  | n + 1, a1, a2, a3, a4, a5, a6, a7 => ((impl_WordOk n a1).bind fun r8 => (bif (!r8) then (some false) else ((impl_within n a2 (1 : Int) (3 : Int)).bind fun r9 => (bif (!r9) then (some false) else ((impl_ValOk n a5 a6 a7).bind fun r10 => (bif (!r10) then (some false) else (bif (!a4) then (let v11 : Bool := ((a5 == 0) && ((a6 == 0) && ((a7.toList == (⟨#[]⟩ : ByteArray).toList) && true))); (some v11)) else (bif (a5 == a2) then (some true) else (bif (a5 == 0) then (some (!a3)) else (some false))))))))))
/-- loop.example/g00462/impl.ColAt$1 -/
def impl_ColAt_1 : Nat → ByteArray → Int → Bool → Bool → Int → Int → ByteArray → ByteArray → Option Bool
  | 0, _, _, _, _, _, _, _, _ => none
  | n + 1, a1, a2, a3, a4, a5, a6, a7, a8 => (some (a1.toList == a8.toList))
def slices_IndexFunc_impl_Col_impl_Col__impl_ColAt_1_L1 (n : Nat) : Nat → Y15 → ByteArray → Int → Int → Option Int
  | 0, _, _, _, _ => none
  | j + 1, x3, x4, x5, x6 => (bif (decide (x6 < x5)) then (bif (inR x6 x3.length) then (let v7 := (x3.getD x6.toNat (⟨#[]⟩, (0, (false, (false, (0, (0, ⟨#[]⟩))))))); ((impl_ColAt_1 n v7.1 v7.2.1 v7.2.2.1 v7.2.2.2.1 v7.2.2.2.2.1 v7.2.2.2.2.2.1 v7.2.2.2.2.2.2 x4).bind fun r8 => (bif r8 then (some x6) else (slices_IndexFunc_impl_Col_impl_Col__impl_ColAt_1_L1 n j x3 x4 x5 (IntKind.wrap .i64 (x6 + 1)))))) else none) else (some (-1 : Int)))
/-- slices.IndexFunc[[]loop.example/g00462/impl.Col,loop.example/g00462/impl.Col] -/
def slices_IndexFunc_impl_Col_impl_Col__impl_ColAt_1 : Nat → Y16 → ByteArray → Option Int
  | 0, _, _ => none
  | n + 1, a1, a2 => (slices_IndexFunc_impl_Col_impl_Col__impl_ColAt_1_L1 n n a1 a2 (a1.length : Int) (0 : Int))
/-- loop.example/g00462/impl.ColAt -/
def impl_ColAt : Nat → ByteArray → Y16 → (List ByteArray) → ByteArray → Option Int
  | 0, _, _, _, _ => none
  | n + 1, a1, a2, a3, a4 => ((slices_IndexFunc_impl_Col_impl_Col__impl_ColAt_1 n a2 a4).bind fun r5 => (some r5))
def impl_TableOk_L2 (n : Nat) : Nat → Int → List ByteArray → Int → Int → ByteArray → Y15 → List ByteArray → Option Bool
  | 0, _, _, _, _, _, _, _ => none
  | j + 1, x13, x14, x15, x16, x17, x18, x19 => (bif (decide (x16 < x15)) then (bif (inR x16 x14.length) then (let v20 : ByteArray := (x14.getD x16.toNat ⟨#[]⟩); ((impl_ColAt n x17 x18 x19 v20).bind fun r21 => (bif (decide (r21 ≤ x13)) then (some false) else (bif (inR r21 x18.length) then (let v22 := (x18.getD r21.toNat (⟨#[]⟩, (0, (false, (false, (0, (0, ⟨#[]⟩))))))); (bif (!v22.2.2.1) then (some false) else (impl_TableOk_L2 n j r21 x14 x15 (IntKind.wrap .i64 (x16 + 1)) x17 x18 x19))) else none)))) else none) else ((impl_WordOk n x17).bind fun r23 => (bif r23 then ((impl_within n (x18.length : Int) (1 : Int) (8 : Int)).bind fun r24 => (bif r24 then (let v25 : Bool := (decide ((0 : Int) < (x19.length : Int))); (some v25)) else (some false))) else (some false))))
def impl_TableOk_L1 (n : Nat) : Nat → Y15 → Int → Int → ByteArray → Y15 → List ByteArray → Option Bool
  | 0, _, _, _, _, _, _ => none
  | j + 1, x4, x5, x6, x7, x8, x9 => (bif (decide (x6 < x5)) then (bif (inR x6 x4.length) then (let v10 := (x4.getD x6.toNat (⟨#[]⟩, (0, (false, (false, (0, (0, ⟨#[]⟩))))))); ((impl_ColOk n v10.1 v10.2.1 v10.2.2.1 v10.2.2.2.1 v10.2.2.2.2.1 v10.2.2.2.2.2.1 v10.2.2.2.2.2.2).bind fun r11 => (bif (!r11) then (some false) else ((impl_ColAt n x7 x8 x9 v10.1).bind fun r12 => (bif (r12 != x6) then (some false) else (impl_TableOk_L1 n j x4 x5 (IntKind.wrap .i64 (x6 + 1)) x7 x8 x9)))))) else none) else (impl_TableOk_L2 n n (-1 : Int) x9 (x9.length : Int) (0 : Int) x7 x8 x9))
/-- loop.example/g00462/impl.TableOk -/
def impl_TableOk : Nat → ByteArray → Y16 → (List ByteArray) → Option Bool
  | 0, _, _, _ => none
  | n + 1, a1, a2, a3 => (impl_TableOk_L1 n n a2 (a2.length : Int) (0 : Int) a1 a2 a3)
def impl_CatOk_L1 (n : Nat) : Nat → Y19 → Int → Int → Y19 → Option Bool
  | 0, _, _, _, _ => none
  | j + 1, x2, x3, x4, x5 => (bif (decide (x4 < x3)) then (bif (inR x4 x2.length) then (let v6 := (x2.getD x4.toNat (⟨#[]⟩, ([], []))); (let v7 : Y15 := []; ((impl_TableOk n v6.1 v6.2.1 v6.2.2).bind fun r8 => (bif (!r8) then (some false) else (bif (decide ((0 : Int) < x4)) then (bif (inR (IntKind.wrap .i64 (x4 - 1)) x5.length) then (let v9 := (x5.getD (IntKind.wrap .i64 (x4 - 1)).toNat (⟨#[]⟩, ([], []))); (let v10 : Bool := (!(Op.bytesLess v9.1.toList v6.1.toList)); (bif v10 then (some false) else (impl_CatOk_L1 n j x2 x3 (IntKind.wrap .i64 (x4 + 1)) x5)))) else none) else (impl_CatOk_L1 n j x2 x3 (IntKind.wrap .i64 (x4 + 1)) x5)))))) else none) else (let v11 : Bool := (decide ((x5.length : Int) ≤ 6)); (some v11)))
/-- loop.example/g00462/impl.CatOk -/
def impl_CatOk : Nat → Y20 → Option Bool
  | 0, _ => none
  | n + 1, a1 => (impl_CatOk_L1 n n a1 (a1.length : Int) (0 : Int) a1)
/-- loop.example/g00462/impl.stands -/
def impl_stands : Nat → ByteArray → Int → Bool → Bool → Int → Int → ByteArray → Int → Int → ByteArray → Option Bool
  | 0, _, _, _, _, _, _, _, _, _, _ => none
  | n + 1, a1, a2, a3, a4, a5, a6, a7, a8, a9, a10 => ((impl_ValOk n a8 a9 a10).bind fun r11 => (bif r11 then (bif (a8 == a2) then (some true) else (bif (a8 == 0) then (some (!a3)) else (some false))) else (some false)))
def impl_rowOk_L1 (n : Nat) : Nat → Y2 → Int → Int → ByteArray → Y15 → List ByteArray → Option Bool
  | 0, _, _, _, _, _, _ => none
  | j + 1, x6, x7, x8, x9, x10, x11 => (bif (decide (x8 < x7)) then (bif (inR x8 x6.length) then (let v12 := (x6.getD x8.toNat (0, (0, ⟨#[]⟩))); (bif (inR x8 x10.length) then (let v13 := (x10.getD x8.toNat (⟨#[]⟩, (0, (false, (false, (0, (0, ⟨#[]⟩))))))); ((impl_stands n v13.1 v13.2.1 v13.2.2.1 v13.2.2.2.1 v13.2.2.2.2.1 v13.2.2.2.2.2.1 v13.2.2.2.2.2.2 v12.1 v12.2.1 v12.2.2).bind fun r14 => (bif (!r14) then (some false) else (impl_rowOk_L1 n j x6 x7 (IntKind.wrap .i64 (x8 + 1)) x9 x10 x11)))) else none)) else none) else (some true))
/-- loop.example/g00462/impl.rowOk -/
def impl_rowOk : Nat → ByteArray → Y16 → (List ByteArray) → Y3 → Option Bool
  | 0, _, _, _, _ => none
  | n + 1, a1, a2, a3, a4 => (let v5 : Bool := ((a4.length : Int) != (a2.length : Int)); (bif v5 then (some false) else (impl_rowOk_L1 n n a4 (a4.length : Int) (0 : Int) a1 a2 a3)))
def impl_keyOf_L1 (n : Nat) : Nat → List ByteArray → Int → Int → ByteArray → Y15 → List ByteArray → Y2 → Y2 → Option Y3
  | 0, _, _, _, _, _, _, _, _ => none
  | j + 1, x5, x6, x7, x8, x9, x10, x11, x12 => (bif (decide (x7 < x6)) then (bif (inR x7 x5.length) then ((impl_ColAt n x8 x9 x10 (x5.getD x7.toNat ⟨#[]⟩)).bind fun r13 => (bif (inR r13 x11.length) then (let v14 := (x11.getD r13.toNat (0, (0, ⟨#[]⟩))); (let v15 : Y2 := [(v14.1, (v14.2.1, v14.2.2))]; (bif (room (x12.length + v15.length) 32) then (impl_keyOf_L1 n j x5 x6 (IntKind.wrap .i64 (x7 + 1)) x8 x9 x10 x11 (x12 ++ v15)) else none))) else none)) else none) else (some x12))
/-- loop.example/g00462/impl.keyOf -/
def impl_keyOf : Nat → ByteArray → Y16 → (List ByteArray) → Y3 → Option Y3
  | 0, _, _, _, _ => none
  | n + 1, a1, a2, a3, a4 => (impl_keyOf_L1 n n a3 (a3.length : Int) (0 : Int) a1 a2 a3 a4 ([] : Y2))
/-- loop.example/g00462/impl.ValLess -/
def impl_ValLess : Nat → Int → Int → ByteArray → Int → Int → ByteArray → Option Bool
  | 0, _, _, _, _, _, _ => none
  | n + 1, a1, a2, a3, a4, a5, a6 => ((impl_ValOk n a1 a2 a3).bind fun r7 => (bif (!r7) then (some false) else ((impl_ValOk n a4 a5 a6).bind fun r8 => (bif (!r8) then (some false) else (bif (a1 != a4) then (some (decide (a1 < a4))) else (bif (a2 != a5) then (some (decide (a2 < a5))) else (some (Op.bytesLess a3.toList a6.toList))))))))
def impl_KeyLess_L1 (n : Nat) : Nat → Y2 → Y2 → Int → Option Bool
  | 0, _, _, _ => none
  | j + 1, x3, x4, x5 => (bif (decide (x5 < (x3.length : Int))) then (bif (decide (x5 < (x4.length : Int))) then (bif (inR x5 x3.length) then (let v6 := (x3.getD x5.toNat (0, (0, ⟨#[]⟩))); (bif (inR x5 x4.length) then (let v7 := (x4.getD x5.toNat (0, (0, ⟨#[]⟩))); (let v8 : Bool := (!((v6.1 == v7.1) && ((v6.2.1 == v7.2.1) && ((v6.2.2.toList == v7.2.2.toList) && true)))); (bif v8 then (bif (inR x5 x3.length) then (let v9 := (x3.getD x5.toNat (0, (0, ⟨#[]⟩))); (bif (inR x5 x4.length) then (let v10 := (x4.getD x5.toNat (0, (0, ⟨#[]⟩))); ((impl_ValLess n v9.1 v9.2.1 v9.2.2 v10.1 v10.2.1 v10.2.2).bind fun r11 => (some r11))) else none)) else none) else (impl_KeyLess_L1 n j x3 x4 (IntKind.wrap .i64 (x5 + 1)))))) else none)) else none) else (let v12 : Bool := (decide ((x3.length : Int) < (x4.length : Int))); (some v12))) else (let v13 : Bool := (decide ((x3.length : Int) < (x4.length : Int))); (some v13)))
/-- loop.example/g00462/impl.KeyLess -/
def impl_KeyLess : Nat → Y3 → Y3 → Option Bool
  | 0, _, _ => none
  | n + 1, a1, a2 => (impl_KeyLess_L1 n n a1 a2 (0 : Int))
def impl_RowsOk_L1 (n : Nat) : Nat → Y5 → Y5 → Int → Int → ByteArray → Y15 → List ByteArray → Option Bool
  | 0, _, _, _, _, _, _, _ => none
  | j + 1, x7, x8, x9, x10, x11, x12, x13 => (bif (decide (x10 < x9)) then (bif (inR x10 x8.length) then (let v14 := (x8.getD x10.toNat []); ((impl_rowOk n x11 x12 x13 v14).bind fun r15 => (bif (!r15) then (some false) else (bif (decide ((0 : Int) < x10)) then (bif (inR (IntKind.wrap .i64 (x10 - 1)) x7.length) then (let v16 := (x7.getD (IntKind.wrap .i64 (x10 - 1)).toNat []); ((impl_keyOf n x11 x12 x13 v16).bind fun r17 => ((impl_keyOf n x11 x12 x13 v14).bind fun r18 => ((impl_KeyLess n r17 r18).bind fun r19 => (bif (!r19) then (some false) else (impl_RowsOk_L1 n j x7 x8 x9 (IntKind.wrap .i64 (x10 + 1)) x11 x12 x13)))))) else none) else (impl_RowsOk_L1 n j x7 x8 x9 (IntKind.wrap .i64 (x10 + 1)) x11 x12 x13))))) else none) else (some true))
/-- loop.example/g00462/impl.RowsOk -/
def impl_RowsOk : Nat → ByteArray → Y16 → (List ByteArray) → Y6 → Option Bool
  | 0, _, _, _, _ => none
  | n + 1, a1, a2, a3, a4 => ((impl_TableOk n a1 a2 a3).bind fun r5 => (bif (!r5) then (some false) else (let v6 : Bool := (decide ((60 : Int) < (a4.length : Int))); (bif v6 then (some false) else (impl_RowsOk_L1 n n a4 a4 (a4.length : Int) (0 : Int) a1 a2 a3)))))
def impl_DbOk_L1 (n : Nat) : Nat → Y19 → Int → Int → Y19 → Y8 → Option Bool
  | 0, _, _, _, _, _ => none
  | j + 1, x5, x6, x7, x8, x9 => (bif (decide (x7 < x6)) then (bif (inR x7 x5.length) then (let v10 := (x5.getD x7.toNat (⟨#[]⟩, ([], []))); (let v11 : Y15 := []; (bif (inR x7 x9.length) then (let v12 := (x9.getD x7.toNat []); ((impl_RowsOk n v10.1 v10.2.1 v10.2.2 v12).bind fun r13 => (bif (!r13) then (some false) else (impl_DbOk_L1 n j x5 x6 (IntKind.wrap .i64 (x7 + 1)) x8 x9)))) else none))) else none) else (some true))
/-- loop.example/g00462/impl.DbOk -/
def impl_DbOk : Nat → Y20 → Y10 → Option Bool
  | 0, _, _ => none
  | n + 1, a1, a2 => ((impl_CatOk n a1).bind fun r3 => (bif (!r3) then (some false) else (let v4 : Bool := ((a2.length : Int) != (a1.length : Int)); (bif v4 then (some false) else (impl_DbOk_L1 n n a1 (a1.length : Int) (0 : Int) a1 a2)))))
/-- loop.example/g00462/impl.copyTexts -/
def impl_copyTexts : Nat → (List ByteArray) → Option (List ByteArray)
  | 0, _ => none
  | n + 1, a1 => (bif (room a1.length 16) then (some a1) else none)
/-- loop.example/g00462/impl.copyTable -/
def impl_copyTable : Nat → ByteArray → Y16 → (List ByteArray) → Option Y18
  | 0, _, _, _ => none
  | n + 1, a1, a2, a3 => (let v4 : Y15 := []; (bif (room a2.length 64) then ((impl_copyTexts n a3).bind fun r5 => (some (a1, (a2, r5)))) else none))
def impl_copyCat_L1 (n : Nat) : Nat → Y19 → Int → Int → Y19 → Y19 → Option Y20
  | 0, _, _, _, _, _ => none
  | j + 1, x5, x6, x7, x8, x9 => (bif (decide (x7 < x6)) then (bif (inR x7 x5.length) then (let v10 := (x5.getD x7.toNat (⟨#[]⟩, ([], []))); (let v11 : Y15 := []; ((impl_copyTable n v10.1 v10.2.1 v10.2.2).bind fun r12 => (let v13 : Y19 := [(r12.1, (r12.2.1, r12.2.2))]; (bif (room (x9.length + v13.length) 64) then (impl_copyCat_L1 n j x5 x6 (IntKind.wrap .i64 (x7 + 1)) x8 (x9 ++ v13)) else none))))) else none) else (some x9))
/-- loop.example/g00462/impl.copyCat -/
def impl_copyCat : Nat → Y20 → Option Y20
  | 0, _ => none
  | n + 1, a1 => (let v2 : Y19 := []; (let v3 : Y19 := []; (let v4 : Y19 := []; (impl_copyCat_L1 n n a1 (a1.length : Int) (0 : Int) v2 v3))))
/-- loop.example/g00462/impl.copyVals -/
def impl_copyVals : Nat → Y3 → Option Y3
  | 0, _ => none
  | n + 1, a1 => (bif (room a1.length 32) then (some a1) else none)
def impl_copyRows_L1 (n : Nat) : Nat → Y5 → Int → Int → Y5 → Option Y6
  | 0, _, _, _, _ => none
  | j + 1, x4, x5, x6, x7 => (bif (decide (x6 < x5)) then (bif (inR x6 x4.length) then (let v8 := (x4.getD x6.toNat []); ((impl_copyVals n v8).bind fun r9 => (let v10 : Y5 := [r9]; (bif (room (x7.length + v10.length) 24) then (impl_copyRows_L1 n j x4 x5 (IntKind.wrap .i64 (x6 + 1)) (x7 ++ v10)) else none)))) else none) else (some x7))
/-- loop.example/g00462/impl.copyRows -/
def impl_copyRows : Nat → Y6 → Option Y6
  | 0, _ => none
  | n + 1, a1 => (let v2 : Y5 := []; (let v3 : Y5 := []; (impl_copyRows_L1 n n a1 (a1.length : Int) (0 : Int) v3)))
def impl_copyDb_L1 (n : Nat) : Nat → Y8 → Int → Int → Y19 → Y8 → Y19 → Y8 → Option Y27
  | 0, _, _, _, _, _, _, _ => none
  | j + 1, x9, x10, x11, x12, x13, x14, x15 => (bif (decide (x11 < x10)) then (bif (inR x11 x9.length) then (let v16 := (x9.getD x11.toNat []); (let v17 : Y5 := []; ((impl_copyRows n v16).bind fun r18 => (let v19 : Y8 := [r18]; (bif (room (x15.length + v19.length) 24) then (impl_copyDb_L1 n j x9 x10 (IntKind.wrap .i64 (x11 + 1)) x12 x13 x14 (x15 ++ v19)) else none))))) else none) else (some (x14, x15)))
/-- loop.example/g00462/impl.copyDb -/
def impl_copyDb : Nat → Y20 → Y10 → Option Y27
  | 0, _, _ => none
  | n + 1, a1, a2 => (let v3 : Y19 := []; let v4 : Y8 := []; ((impl_copyCat n a1).bind fun r5 => (let v6 : Y8 := []; (let v7 : Y19 := []; let v8 : Y8 := []; (impl_copyDb_L1 n n a2 (a2.length : Int) (0 : Int) v3 v4 r5 v6)))))
/-- (loop.example/g00462/impl.Ddl).made -/
def impl_Ddl_made : Nat → Int → ByteArray → Y16 → (List ByteArray) → ByteArray → ByteArray → Option Y18
  | 0, _, _, _, _, _, _ => none
  | n + 1, a1, a2, a3, a4, a5, a6 => (let v7 : Y15 := []; ((impl_copyTable n a2 a3 a4).bind fun r8 => (some (r8.1, (r8.2.1, r8.2.2)))))
def slices_Equal_impl_Col_impl_Col_L1 (n : Nat) : Nat → Y15 → Y15 → Int → Int → Option Bool
  | 0, _, _, _, _ => none
  | j + 1, x4, x5, x6, x7 => (bif (decide (x7 < x6)) then (bif (inR x7 x4.length) then (let v8 := (x4.getD x7.toNat (⟨#[]⟩, (0, (false, (false, (0, (0, ⟨#[]⟩))))))); (bif (inR x7 x5.length) then (let v9 := (x5.getD x7.toNat (⟨#[]⟩, (0, (false, (false, (0, (0, ⟨#[]⟩))))))); (let v10 : Bool := (!((v8.1.toList == v9.1.toList) && ((v8.2.1 == v9.2.1) && ((v8.2.2.1 == v9.2.2.1) && ((v8.2.2.2.1 == v9.2.2.2.1) && ((v8.2.2.2.2.1 == v9.2.2.2.2.1) && ((v8.2.2.2.2.2.1 == v9.2.2.2.2.2.1) && ((v8.2.2.2.2.2.2.toList == v9.2.2.2.2.2.2.toList) && true)))))))); (bif v10 then (some false) else (slices_Equal_impl_Col_impl_Col_L1 n j x4 x5 x6 (IntKind.wrap .i64 (x7 + 1)))))) else none)) else none) else (some true))
/-- slices.Equal[[]loop.example/g00462/impl.Col,loop.example/g00462/impl.Col] -/
def slices_Equal_impl_Col_impl_Col : Nat → Y16 → Y16 → Option Bool
  | 0, _, _ => none
  | n + 1, a1, a2 => (let v3 : Bool := ((a1.length : Int) != (a2.length : Int)); (bif v3 then (some false) else (slices_Equal_impl_Col_impl_Col_L1 n n a1 a2 (a1.length : Int) (0 : Int))))
def slices_Equal_string_string_L1 (n : Nat) : Nat → List ByteArray → List ByteArray → Int → Int → Option Bool
  | 0, _, _, _, _ => none
  | j + 1, x4, x5, x6, x7 => (bif (decide (x7 < x6)) then (bif (inR x7 x4.length) then (bif (inR x7 x5.length) then (let v8 : Bool := (!((x4.getD x7.toNat ⟨#[]⟩).toList == (x5.getD x7.toNat ⟨#[]⟩).toList)); (bif v8 then (some false) else (slices_Equal_string_string_L1 n j x4 x5 x6 (IntKind.wrap .i64 (x7 + 1))))) else none) else none) else (some true))
/-- slices.Equal[[]string,string] -/
def slices_Equal_string_string : Nat → (List ByteArray) → (List ByteArray) → Option Bool
  | 0, _, _ => none
  | n + 1, a1, a2 => (let v3 : Bool := ((a1.length : Int) != (a2.length : Int)); (bif v3 then (some false) else (slices_Equal_string_string_L1 n n a1 a2 (a1.length : Int) (0 : Int))))
/-- loop.example/g00462/impl.equalDdl -/
def impl_equalDdl : Nat → Int → ByteArray → Y16 → (List ByteArray) → ByteArray → ByteArray → Int → ByteArray → Y16 → (List ByteArray) → ByteArray → ByteArray → Option Bool
  | 0, _, _, _, _, _, _, _, _, _, _, _, _ => none
  | n + 1, a1, a2, a3, a4, a5, a6, a7, a8, a9, a10, a11, a12 => (bif (a1 == a7) then (bif (a2.toList == a8.toList) then ((slices_Equal_impl_Col_impl_Col n a3 a9).bind fun r13 => (bif r13 then ((slices_Equal_string_string n a4 a10).bind fun r14 => (bif r14 then (bif (a5.toList == a11.toList) then (some (a6.toList == a12.toList)) else (some false)) else (some false))) else (some false))) else (some false)) else (some false))
/-- loop.example/g00462/impl.DdlOk -/
def impl_DdlOk : Nat → Int → ByteArray → Y16 → (List ByteArray) → ByteArray → ByteArray → Option Bool
  | 0, _, _, _, _, _, _ => none
  | n + 1, a1, a2, a3, a4, a5, a6 => ((impl_WordOk n a2).bind fun r7 => (bif (!r7) then (some false) else (let v8 : Y15 := []; (let v9 : Y15 := []; (bif (a1 == 1) then ((impl_Ddl_made n a1 a2 a3 a4 a5 a6).bind fun r10 => ((impl_TableOk n r10.1 r10.2.1 r10.2.2).bind fun r11 => (bif r11 then (let v12 : Bool := (a5.toList == (⟨#[]⟩ : ByteArray).toList); (bif v12 then (let v13 : Bool := (a6.toList == (⟨#[]⟩ : ByteArray).toList); (some v13)) else (some false))) else (some false)))) else (bif (a1 == 2) then ((impl_equalDdl n a1 a2 a3 a4 a5 a6 a1 a2 v8 ([] : List ByteArray) (⟨#[]⟩ : ByteArray) (⟨#[]⟩ : ByteArray)).bind fun r14 => (some r14)) else (bif (a1 == 3) then ((impl_equalDdl n a1 a2 a3 a4 a5 a6 a1 a2 a3 ([] : List ByteArray) (⟨#[]⟩ : ByteArray) (⟨#[]⟩ : ByteArray)).bind fun r15 => (bif r15 then (bif ((a3.length : Int) == 1) then (bif (inR (0 : Int) a3.length) then (let v16 := (a3.getD (0 : Int).toNat (⟨#[]⟩, (0, (false, (false, (0, (0, ⟨#[]⟩))))))); ((impl_ColOk n v16.1 v16.2.1 v16.2.2.1 v16.2.2.2.1 v16.2.2.2.2.1 v16.2.2.2.2.2.1 v16.2.2.2.2.2.2).bind fun r17 => (bif r17 then (bif (inR (0 : Int) a3.length) then (let v18 := (a3.getD (0 : Int).toNat (⟨#[]⟩, (0, (false, (false, (0, (0, ⟨#[]⟩))))))); (bif v18.2.2.2.1 then (some true) else (bif (inR (0 : Int) a3.length) then (let v19 := (a3.getD (0 : Int).toNat (⟨#[]⟩, (0, (false, (false, (0, (0, ⟨#[]⟩))))))); (some (!v19.2.2.1))) else none))) else none) else (some false)))) else none) else (some false)) else (some false))) else (bif (a1 == 4) then ((impl_equalDdl n a1 a2 a3 a4 a5 a6 a1 a2 v8 ([] : List ByteArray) a5 (⟨#[]⟩ : ByteArray)).bind fun r20 => (bif r20 then ((impl_WordOk n a5).bind fun r21 => (some r21)) else (some false))) else (bif (a1 == 5) then ((impl_equalDdl n a1 a2 a3 a4 a5 a6 a1 a2 v8 ([] : List ByteArray) a5 a6).bind fun r22 => (bif r22 then ((impl_WordOk n a5).bind fun r23 => (bif r23 then ((impl_WordOk n a6).bind fun r24 => (some r24)) else (some false))) else (some false))) else (some false))))))))))
/-- loop.example/g00462/impl.areVals$1 -/
def impl_areVals_1 : Nat → Int → Int → ByteArray → Option Bool
  | 0, _, _, _ => none
  | n + 1, a1, a2, a3 => ((impl_ValOk n a1 a2 a3).bind fun r4 => (some (!r4)))
def slices_IndexFunc_impl_Val_impl_Val__impl_areVals_1_L1 (n : Nat) : Nat → Y2 → Int → Int → Option Int
  | 0, _, _, _ => none
  | j + 1, x2, x3, x4 => (bif (decide (x4 < x3)) then (bif (inR x4 x2.length) then (let v5 := (x2.getD x4.toNat (0, (0, ⟨#[]⟩))); ((impl_areVals_1 n v5.1 v5.2.1 v5.2.2).bind fun r6 => (bif r6 then (some x4) else (slices_IndexFunc_impl_Val_impl_Val__impl_areVals_1_L1 n j x2 x3 (IntKind.wrap .i64 (x4 + 1)))))) else none) else (some (-1 : Int)))
/-- slices.IndexFunc[[]loop.example/g00462/impl.Val,loop.example/g00462/impl.Val] -/
def slices_IndexFunc_impl_Val_impl_Val__impl_areVals_1 : Nat → Y3 → Option Int
  | 0, _ => none
  | n + 1, a1 => (slices_IndexFunc_impl_Val_impl_Val__impl_areVals_1_L1 n n a1 (a1.length : Int) (0 : Int))
/-- slices.ContainsFunc[[]loop.example/g00462/impl.Val,loop.example/g00462/impl.Val] -/
def slices_ContainsFunc_impl_Val_impl_Val__impl_areVals_1 : Nat → Y3 → Option Bool
  | 0, _ => none
  | n + 1, a1 => ((slices_IndexFunc_impl_Val_impl_Val__impl_areVals_1 n a1).bind fun r2 => (some (decide ((0 : Int) ≤ r2))))
/-- loop.example/g00462/impl.areVals -/
def impl_areVals : Nat → Y3 → Option Bool
  | 0, _ => none
  | n + 1, a1 => ((impl_within n (a1.length : Int) (1 : Int) (8 : Int)).bind fun r2 => (bif r2 then ((slices_ContainsFunc_impl_Val_impl_Val__impl_areVals_1 n a1).bind fun r3 => (some (!r3))) else (some false)))
/-- loop.example/g00462/impl.StmtOk -/
def impl_StmtOk : Nat → Int → ByteArray → Y3 → Y3 → Int → ByteArray → Y16 → (List ByteArray) → ByteArray → ByteArray → Option Bool
  | 0, _, _, _, _, _, _, _, _, _, _ => none
  | n + 1, a1, a2, a3, a4, a5, a6, a7, a8, a9, a10 => (bif (a1 == 5) then ((impl_DdlOk n a5 a6 a7 a8 a9 a10).bind fun r11 => (bif r11 then (bif (a2.toList == a6.toList) then (bif ((a3.length : Int) == 0) then (some ((a4.length : Int) == 0)) else (some false)) else (some false)) else (some false))) else ((impl_WordOk n a2).bind fun r12 => (bif (!r12) then (some false) else (let v13 : Y15 := []; ((impl_equalDdl n a5 a6 a7 a8 a9 a10 (0 : Int) (⟨#[]⟩ : ByteArray) v13 ([] : List ByteArray) (⟨#[]⟩ : ByteArray) (⟨#[]⟩ : ByteArray)).bind fun r14 => (bif (!r14) then (some false) else (bif (a1 == 1) then (bif ((a3.length : Int) == 0) then ((impl_areVals n a4).bind fun r15 => (some r15)) else (some false)) else (bif (a1 == 2) then ((impl_areVals n a3).bind fun r16 => (bif r16 then ((impl_areVals n a4).bind fun r17 => (some r17)) else (some false))) else (bif (a1 == 3) then ((impl_areVals n a3).bind fun r18 => (bif r18 then (some ((a4.length : Int) == 0)) else (some false))) else (bif (a1 == 4) then (bif ((a3.length : Int) == 0) then (some ((a4.length : Int) == 0)) else (some false)) else (some false)))))))))))
/-- (loop.example/g00462/impl.Cat).at$1 -/
def impl_Cat_at_1 : Nat → ByteArray → Y16 → (List ByteArray) → ByteArray → Option Bool
  | 0, _, _, _, _ => none
  | n + 1, a1, a2, a3, a4 => (some (a1.toList == a4.toList))
def slices_IndexFunc_impl_Table_impl_Table__impl_Cat_at_1_L1 (n : Nat) : Nat → Y19 → ByteArray → Int → Int → Option Int
  | 0, _, _, _, _ => none
  | j + 1, x3, x4, x5, x6 => (bif (decide (x6 < x5)) then (bif (inR x6 x3.length) then (let v7 := (x3.getD x6.toNat (⟨#[]⟩, ([], []))); ((impl_Cat_at_1 n v7.1 v7.2.1 v7.2.2 x4).bind fun r8 => (bif r8 then (some x6) else (slices_IndexFunc_impl_Table_impl_Table__impl_Cat_at_1_L1 n j x3 x4 x5 (IntKind.wrap .i64 (x6 + 1)))))) else none) else (some (-1 : Int)))
/-- slices.IndexFunc[[]loop.example/g00462/impl.Table,loop.example/g00462/impl.Table] -/
def slices_IndexFunc_impl_Table_impl_Table__impl_Cat_at_1 : Nat → Y20 → ByteArray → Option Int
  | 0, _, _ => none
  | n + 1, a1, a2 => (slices_IndexFunc_impl_Table_impl_Table__impl_Cat_at_1_L1 n n a1 a2 (a1.length : Int) (0 : Int))
/-- (loop.example/g00462/impl.Cat).at -/
def impl_Cat_at : Nat → Y20 → ByteArray → Option Int
  | 0, _, _ => none
  | n + 1, a1, a2 => ((slices_IndexFunc_impl_Table_impl_Table__impl_Cat_at_1 n a1 a2).bind fun r3 => (some r3))
def slices_Index_string_string_L1 (n : Nat) : Nat → List ByteArray → ByteArray → Int → Int → Option Int
  | 0, _, _, _, _ => none
  | j + 1, x3, x4, x5, x6 => (bif (decide (x6 < x5)) then (bif (inR x6 x3.length) then (let v7 : Bool := (x4.toList == (x3.getD x6.toNat ⟨#[]⟩).toList); (bif v7 then (some x6) else (slices_Index_string_string_L1 n j x3 x4 x5 (IntKind.wrap .i64 (x6 + 1))))) else none) else (some (-1 : Int)))
/-- slices.Index[[]string,string] -/
def slices_Index_string_string : Nat → (List ByteArray) → ByteArray → Option Int
  | 0, _, _ => none
  | n + 1, a1, a2 => (slices_Index_string_string_L1 n n a1 a2 (a1.length : Int) (0 : Int))
/-- slices.Contains[[]string,string] -/
def slices_Contains_string_string : Nat → (List ByteArray) → ByteArray → Option Bool
  | 0, _, _ => none
  | n + 1, a1, a2 => ((slices_Index_string_string n a1 a2).bind fun r3 => (some (decide ((0 : Int) ≤ r3))))
/-- loop.example/g00462/impl.ddlCode -/
def impl_ddlCode : Nat → Y20 → Int → ByteArray → Y16 → (List ByteArray) → ByteArray → ByteArray → Option Int
  | 0, _, _, _, _, _, _, _ => none
  | n + 1, a1, a2, a3, a4, a5, a6, a7 => ((impl_Cat_at n a1 a3).bind fun r8 => (bif (a2 == 1) then (bif (decide ((0 : Int) ≤ r8)) then (some (2 : Int)) else (bif ((a1.length : Int) == 6) then (some (3 : Int)) else (some (0 : Int)))) else (bif (decide (r8 < 0)) then (some (4 : Int)) else (bif (inR r8 a1.length) then (let v9 := (a1.getD r8.toNat (⟨#[]⟩, ([], []))); (let v10 : Y15 := []; (bif (a2 == 3) then (bif (inR (0 : Int) a4.length) then (let v11 := (a4.getD (0 : Int).toNat (⟨#[]⟩, (0, (false, (false, (0, (0, ⟨#[]⟩))))))); ((impl_ColAt n v9.1 v9.2.1 v9.2.2 v11.1).bind fun r12 => (bif (decide ((0 : Int) ≤ r12)) then (some (5 : Int)) else (bif (a2 == 5) then ((impl_ColAt n v9.1 v9.2.1 v9.2.2 a7).bind fun r13 => (bif (decide ((0 : Int) ≤ r13)) then (some (5 : Int)) else (bif (a2 == 3) then (bif ((v9.2.1.length : Int) == 8) then (some (6 : Int)) else (bif (a2 == 4) then ((impl_ColAt n v9.1 v9.2.1 v9.2.2 a6).bind fun r14 => (bif (decide (r14 < 0)) then (some (7 : Int)) else (bif (a2 == 4) then ((slices_Contains_string_string n v9.2.2 a6).bind fun r15 => (bif r15 then (some (8 : Int)) else (some (0 : Int)))) else (some (0 : Int))))) else (bif (a2 == 5) then ((impl_ColAt n v9.1 v9.2.1 v9.2.2 a6).bind fun r16 => (bif (decide (r16 < 0)) then (some (7 : Int)) else (bif (a2 == 4) then ((slices_Contains_string_string n v9.2.2 a6).bind fun r17 => (bif r17 then (some (8 : Int)) else (some (0 : Int)))) else (some (0 : Int))))) else (bif (a2 == 4) then ((slices_Contains_string_string n v9.2.2 a6).bind fun r18 => (bif r18 then (some (8 : Int)) else (some (0 : Int)))) else (some (0 : Int)))))) else (bif (a2 == 4) then ((impl_ColAt n v9.1 v9.2.1 v9.2.2 a6).bind fun r19 => (bif (decide (r19 < 0)) then (some (7 : Int)) else (bif (a2 == 4) then ((slices_Contains_string_string n v9.2.2 a6).bind fun r20 => (bif r20 then (some (8 : Int)) else (some (0 : Int)))) else (some (0 : Int))))) else (bif (a2 == 5) then ((impl_ColAt n v9.1 v9.2.1 v9.2.2 a6).bind fun r21 => (bif (decide (r21 < 0)) then (some (7 : Int)) else (bif (a2 == 4) then ((slices_Contains_string_string n v9.2.2 a6).bind fun r22 => (bif r22 then (some (8 : Int)) else (some (0 : Int)))) else (some (0 : Int))))) else (bif (a2 == 4) then ((slices_Contains_string_string n v9.2.2 a6).bind fun r23 => (bif r23 then (some (8 : Int)) else (some (0 : Int)))) else (some (0 : Int)))))))) else (bif (a2 == 3) then (bif ((v9.2.1.length : Int) == 8) then (some (6 : Int)) else (bif (a2 == 4) then ((impl_ColAt n v9.1 v9.2.1 v9.2.2 a6).bind fun r24 => (bif (decide (r24 < 0)) then (some (7 : Int)) else (bif (a2 == 4) then ((slices_Contains_string_string n v9.2.2 a6).bind fun r25 => (bif r25 then (some (8 : Int)) else (some (0 : Int)))) else (some (0 : Int))))) else (bif (a2 == 5) then ((impl_ColAt n v9.1 v9.2.1 v9.2.2 a6).bind fun r26 => (bif (decide (r26 < 0)) then (some (7 : Int)) else (bif (a2 == 4) then ((slices_Contains_string_string n v9.2.2 a6).bind fun r27 => (bif r27 then (some (8 : Int)) else (some (0 : Int)))) else (some (0 : Int))))) else (bif (a2 == 4) then ((slices_Contains_string_string n v9.2.2 a6).bind fun r28 => (bif r28 then (some (8 : Int)) else (some (0 : Int)))) else (some (0 : Int)))))) else (bif (a2 == 4) then ((impl_ColAt n v9.1 v9.2.1 v9.2.2 a6).bind fun r29 => (bif (decide (r29 < 0)) then (some (7 : Int)) else (bif (a2 == 4) then ((slices_Contains_string_string n v9.2.2 a6).bind fun r30 => (bif r30 then (some (8 : Int)) else (some (0 : Int)))) else (some (0 : Int))))) else (bif (a2 == 5) then ((impl_ColAt n v9.1 v9.2.1 v9.2.2 a6).bind fun r31 => (bif (decide (r31 < 0)) then (some (7 : Int)) else (bif (a2 == 4) then ((slices_Contains_string_string n v9.2.2 a6).bind fun r32 => (bif r32 then (some (8 : Int)) else (some (0 : Int)))) else (some (0 : Int))))) else (bif (a2 == 4) then ((slices_Contains_string_string n v9.2.2 a6).bind fun r33 => (bif r33 then (some (8 : Int)) else (some (0 : Int)))) else (some (0 : Int)))))))))) else none) else (bif (a2 == 5) then ((impl_ColAt n v9.1 v9.2.1 v9.2.2 a7).bind fun r34 => (bif (decide ((0 : Int) ≤ r34)) then (some (5 : Int)) else (bif (a2 == 3) then (bif ((v9.2.1.length : Int) == 8) then (some (6 : Int)) else (bif (a2 == 4) then ((impl_ColAt n v9.1 v9.2.1 v9.2.2 a6).bind fun r35 => (bif (decide (r35 < 0)) then (some (7 : Int)) else (bif (a2 == 4) then ((slices_Contains_string_string n v9.2.2 a6).bind fun r36 => (bif r36 then (some (8 : Int)) else (some (0 : Int)))) else (some (0 : Int))))) else (bif (a2 == 5) then ((impl_ColAt n v9.1 v9.2.1 v9.2.2 a6).bind fun r37 => (bif (decide (r37 < 0)) then (some (7 : Int)) else (bif (a2 == 4) then ((slices_Contains_string_string n v9.2.2 a6).bind fun r38 => (bif r38 then (some (8 : Int)) else (some (0 : Int)))) else (some (0 : Int))))) else (bif (a2 == 4) then ((slices_Contains_string_string n v9.2.2 a6).bind fun r39 => (bif r39 then (some (8 : Int)) else (some (0 : Int)))) else (some (0 : Int)))))) else (bif (a2 == 4) then ((impl_ColAt n v9.1 v9.2.1 v9.2.2 a6).bind fun r40 => (bif (decide (r40 < 0)) then (some (7 : Int)) else (bif (a2 == 4) then ((slices_Contains_string_string n v9.2.2 a6).bind fun r41 => (bif r41 then (some (8 : Int)) else (some (0 : Int)))) else (some (0 : Int))))) else (bif (a2 == 5) then ((impl_ColAt n v9.1 v9.2.1 v9.2.2 a6).bind fun r42 => (bif (decide (r42 < 0)) then (some (7 : Int)) else (bif (a2 == 4) then ((slices_Contains_string_string n v9.2.2 a6).bind fun r43 => (bif r43 then (some (8 : Int)) else (some (0 : Int)))) else (some (0 : Int))))) else (bif (a2 == 4) then ((slices_Contains_string_string n v9.2.2 a6).bind fun r44 => (bif r44 then (some (8 : Int)) else (some (0 : Int)))) else (some (0 : Int)))))))) else (bif (a2 == 3) then (bif ((v9.2.1.length : Int) == 8) then (some (6 : Int)) else (bif (a2 == 4) then ((impl_ColAt n v9.1 v9.2.1 v9.2.2 a6).bind fun r45 => (bif (decide (r45 < 0)) then (some (7 : Int)) else (bif (a2 == 4) then ((slices_Contains_string_string n v9.2.2 a6).bind fun r46 => (bif r46 then (some (8 : Int)) else (some (0 : Int)))) else (some (0 : Int))))) else (bif (a2 == 5) then ((impl_ColAt n v9.1 v9.2.1 v9.2.2 a6).bind fun r47 => (bif (decide (r47 < 0)) then (some (7 : Int)) else (bif (a2 == 4) then ((slices_Contains_string_string n v9.2.2 a6).bind fun r48 => (bif r48 then (some (8 : Int)) else (some (0 : Int)))) else (some (0 : Int))))) else (bif (a2 == 4) then ((slices_Contains_string_string n v9.2.2 a6).bind fun r49 => (bif r49 then (some (8 : Int)) else (some (0 : Int)))) else (some (0 : Int)))))) else (bif (a2 == 4) then ((impl_ColAt n v9.1 v9.2.1 v9.2.2 a6).bind fun r50 => (bif (decide (r50 < 0)) then (some (7 : Int)) else (bif (a2 == 4) then ((slices_Contains_string_string n v9.2.2 a6).bind fun r51 => (bif r51 then (some (8 : Int)) else (some (0 : Int)))) else (some (0 : Int))))) else (bif (a2 == 5) then ((impl_ColAt n v9.1 v9.2.1 v9.2.2 a6).bind fun r52 => (bif (decide (r52 < 0)) then (some (7 : Int)) else (bif (a2 == 4) then ((slices_Contains_string_string n v9.2.2 a6).bind fun r53 => (bif r53 then (some (8 : Int)) else (some (0 : Int)))) else (some (0 : Int))))) else (bif (a2 == 4) then ((slices_Contains_string_string n v9.2.2 a6).bind fun r54 => (bif r54 then (some (8 : Int)) else (some (0 : Int)))) else (some (0 : Int)))))))))) else none))))
/-- slices.Insert[[]loop.example/g00462/impl.Table,loop.example/g00462/impl.Table] -/
def slices_Insert_impl_Table_impl_Table : Nat → Y20 → Int → Y20 → Option Y20
  | 0, _, _, _ => none
  | n + 1, a1, a2, a3 => insF 64 a1 a2 a3
/-- slices.Delete[[]loop.example/g00462/impl.Table,loop.example/g00462/impl.Table] -/
def slices_Delete_impl_Table_impl_Table : Nat → Y20 → Int → Int → Option Y20
  | 0, _, _, _ => none
  | n + 1, a1, a2, a3 => delF a1 a2 a3
/-- loop.example/g00462/impl.DdlApply$1 -/
def impl_DdlApply_1 : Nat → ByteArray → Int → Bool → Bool → Int → Int → ByteArray → Y26 → Option Bool
  | 0, _, _, _, _, _, _, _, _ => none
  | n + 1, a1, a2, a3, a4, a5, a6, a7, a8 => (some (a1.toList == a8.2.2.2.2.1.toList))
def slices_IndexFunc_impl_Col_impl_Col__impl_DdlApply_1_L1 (n : Nat) : Nat → Y15 → Y26 → Int → Int → Option Int
  | 0, _, _, _, _ => none
  | j + 1, x3, x4, x5, x6 => (bif (decide (x6 < x5)) then (bif (inR x6 x3.length) then (let v7 := (x3.getD x6.toNat (⟨#[]⟩, (0, (false, (false, (0, (0, ⟨#[]⟩))))))); ((impl_DdlApply_1 n v7.1 v7.2.1 v7.2.2.1 v7.2.2.2.1 v7.2.2.2.2.1 v7.2.2.2.2.2.1 v7.2.2.2.2.2.2 x4).bind fun r8 => (bif r8 then (some x6) else (slices_IndexFunc_impl_Col_impl_Col__impl_DdlApply_1_L1 n j x3 x4 x5 (IntKind.wrap .i64 (x6 + 1)))))) else none) else (some (-1 : Int)))
/-- slices.IndexFunc[[]loop.example/g00462/impl.Col,loop.example/g00462/impl.Col] -/
def slices_IndexFunc_impl_Col_impl_Col__impl_DdlApply_1 : Nat → Y16 → Y26 → Option Int
  | 0, _, _ => none
  | n + 1, a1, a2 => (slices_IndexFunc_impl_Col_impl_Col__impl_DdlApply_1_L1 n n a1 a2 (a1.length : Int) (0 : Int))
def slices_DeleteFunc_impl_Col_impl_Col_o__impl_DdlApply_1_L1 (n : Nat) : Nat → Y26 → Int → Int → Y15 → Option Y16
  | 0, _, _, _, _ => none
  | j + 1, x5, x6, x7, x8 => (bif (decide (x7 < (x8.length : Int))) then (bif (inR x7 x8.length) then (let v9 : ByteArray := (x8.getD x7.toNat (⟨#[]⟩, (0, (false, (false, (0, (0, ⟨#[]⟩))))))).1; let v10 : Int := (x8.getD x7.toNat (⟨#[]⟩, (0, (false, (false, (0, (0, ⟨#[]⟩))))))).2.1; let v11 : Bool := (x8.getD x7.toNat (⟨#[]⟩, (0, (false, (false, (0, (0, ⟨#[]⟩))))))).2.2.1; let v12 : Bool := (x8.getD x7.toNat (⟨#[]⟩, (0, (false, (false, (0, (0, ⟨#[]⟩))))))).2.2.2.1; let v13 : Int := (x8.getD x7.toNat (⟨#[]⟩, (0, (false, (false, (0, (0, ⟨#[]⟩))))))).2.2.2.2.1; let v14 : Int := (x8.getD x7.toNat (⟨#[]⟩, (0, (false, (false, (0, (0, ⟨#[]⟩))))))).2.2.2.2.2.1; let v15 : ByteArray := (x8.getD x7.toNat (⟨#[]⟩, (0, (false, (false, (0, (0, ⟨#[]⟩))))))).2.2.2.2.2.2; ((impl_DdlApply_1 n v9 v10 v11 v12 v13 v14 v15 x5).bind fun r16 => (bif (!r16) then (bif (inR x6 x8.length) then (let v17 := (x8.set x6.toNat (v9, (v10, (v11, (v12, (v13, (v14, v15))))))); (slices_DeleteFunc_impl_Col_impl_Col_o__impl_DdlApply_1_L1 n j x5 (IntKind.wrap .i64 (x6 + 1)) (IntKind.wrap .i64 (x7 + 1)) v17)) else none) else (slices_DeleteFunc_impl_Col_impl_Col_o__impl_DdlApply_1_L1 n j x5 x6 (IntKind.wrap .i64 (x7 + 1)) x8)))) else none) else (bif (decide (0 ≤ x6 ∧ x6 ≤ ((x8.length : Nat) : Int) ∧ ((x8.length : Nat) : Int) ≤ (x8.length : Int))) then (let v18 := (x8.take x6.toNat ++ List.replicate (((x8.length : Nat) : Int).toNat - x6.toNat) ((⟨#[]⟩ : ByteArray), ((0 : Int), (false, (false, ((0 : Int), ((0 : Int), (⟨#[]⟩ : ByteArray))))))) ++ x8.drop (x6.toNat + (((x8.length : Nat) : Int).toNat - x6.toNat))); (bif (decide (0 ≤ ((0 : Nat) : Int) ∧ ((0 : Nat) : Int) ≤ x6 ∧ x6 ≤ (v18.length : Int))) then (some (v18.take (x6.toNat - ((0 : Nat) : Int).toNat))) else none)) else none))
/-- slices.DeleteFunc[[]loop.example/g00462/impl.Col,loop.example/g00462/impl.Col] -/
def slices_DeleteFunc_impl_Col_impl_Col_o__impl_DdlApply_1 : Nat → Y16 → Y26 → Option Y16
  | 0, _, _ => none
  | n + 1, a1, a2 => (let v3 : Y15 := []; ((slices_IndexFunc_impl_Col_impl_Col__impl_DdlApply_1 n a1 a2).bind fun r4 => (bif (r4 == (-1 : Int)) then (some a1) else (slices_DeleteFunc_impl_Col_impl_Col_o__impl_DdlApply_1_L1 n n a2 r4 (IntKind.wrap .i64 (r4 + 1)) a1))))
def impl_DdlApply_L1 (n : Nat) : Nat → Int → Int → ByteArray → Y15 → List ByteArray → ByteArray → ByteArray → Y19 → Y19 → Option Y23
  | 0, _, _, _, _, _, _, _, _, _ => none
  | j + 1, x18, x19, x20, x21, x22, x23, x24, x25, x26 => (bif (decide (x18 < (x26.length : Int))) then (bif (inR x18 x26.length) then (let v27 : ByteArray := (x26.getD x18.toNat (⟨#[]⟩, ([], []))).1; (bif (Op.bytesLess v27.toList x20.toList) then (impl_DdlApply_L1 n j (IntKind.wrap .i64 (x18 + 1)) x19 x20 x21 x22 x23 x24 x25 x26) else ((impl_Ddl_made n x19 x20 x21 x22 x23 x24).bind fun r28 => (let v29 : Y19 := [(r28.1, (r28.2.1, r28.2.2))]; ((slices_Insert_impl_Table_impl_Table n x26 x18 v29).bind fun r30 => (some (r30, ((0 : Int), ())))))))) else none) else ((impl_Ddl_made n x19 x20 x21 x22 x23 x24).bind fun r31 => (let v32 : Y19 := [(r31.1, (r31.2.1, r31.2.2))]; ((slices_Insert_impl_Table_impl_Table n x26 x18 v32).bind fun r33 => (some (r33, ((0 : Int), ())))))))
/-- loop.example/g00462/impl.DdlApply -/
def impl_DdlApply : Nat → Y20 → Int → ByteArray → Y16 → (List ByteArray) → ByteArray → ByteArray → Option Y23
  | 0, _, _, _, _, _, _, _ => none
  | n + 1, a1, a2, a3, a4, a5, a6, a7 => (let v8 : Y19 := []; ((impl_CatOk n a1).bind fun r9 => (bif (!r9) then (let v10 : Y19 := []; (some (v10, ((1 : Int), ())))) else ((impl_DdlOk n a2 a3 a4 a5 a6 a7).bind fun r11 => (bif (!r11) then (let v12 : Y19 := []; (some (v12, ((1 : Int), ())))) else ((impl_ddlCode n a1 a2 a3 a4 a5 a6 a7).bind fun r13 => (bif (r13 != 0) then (let v14 : Y19 := []; (some (v14, (r13, ())))) else ((impl_copyCat n a1).bind fun r15 => (let v16 : Y19 := []; ((impl_Cat_at n a1 a3).bind fun r17 => (bif (a2 == 1) then (impl_DdlApply_L1 n n (0 : Int) a2 a3 a4 a5 a6 a7 v8 r15) else (bif (a2 == 2) then ((slices_Delete_impl_Table_impl_Table n r15 r17 (IntKind.wrap .i64 (r17 + 1))).bind fun r34 => (some (r34, ((0 : Int), ())))) else (bif (a2 == 3) then (bif (inR r17 r15.length) then (bif (inR (0 : Int) a4.length) then (let v35 := (a4.getD (0 : Int).toNat (⟨#[]⟩, (0, (false, (false, (0, (0, ⟨#[]⟩))))))); (let v36 : Y15 := [(v35.1, (v35.2.1, (v35.2.2.1, (v35.2.2.2.1, (v35.2.2.2.2.1, (v35.2.2.2.2.2.1, v35.2.2.2.2.2.2))))))]; (bif (room ((r15.getD r17.toNat (⟨#[]⟩, ([], []))).2.1.length + v36.length) 64) then (let v37 := ((r15.getD r17.toNat (⟨#[]⟩, ([], []))).2.1 ++ v36); (bif (inR r17 r15.length) then (bif (Nat.beq r17.toNat r17.toNat) then (let v38 := (r15.set r17.toNat ((r15.getD r17.toNat (⟨#[]⟩, ([], []))).1, (v37, (r15.getD r17.toNat (⟨#[]⟩, ([], []))).2.2))); (some (v38, ((0 : Int), ())))) else none) else none)) else none))) else none) else none) else (bif (a2 == 4) then (bif (inR r17 r15.length) then ((slices_DeleteFunc_impl_Col_impl_Col_o__impl_DdlApply_1 n (r15.getD r17.toNat (⟨#[]⟩, ([], []))).2.1 (a2, (a3, (a4, (a5, (a6, a7)))))).bind fun r39 => (bif (Nat.beq r17.toNat r17.toNat) then (let v40 := (r15.set r17.toNat ((r15.getD r17.toNat (⟨#[]⟩, ([], []))).1, (r39, (r15.getD r17.toNat (⟨#[]⟩, ([], []))).2.2))); (some (v40, ((0 : Int), ())))) else none)) else none) else (bif (a2 == 5) then (bif (inR r17 r15.length) then (let v41 : ByteArray := (r15.getD r17.toNat (⟨#[]⟩, ([], []))).1; ((impl_ColAt n v41 (r15.getD r17.toNat (⟨#[]⟩, ([], []))).2.1 (r15.getD r17.toNat (⟨#[]⟩, ([], []))).2.2 a6).bind fun r42 => (bif (inR r42 (r15.getD r17.toNat (⟨#[]⟩, ([], []))).2.1.length) then (let v43 := (r15.getD r17.toNat (⟨#[]⟩, ([], []))).2.1; (let v44 := (r15.set r17.toNat ((r15.getD r17.toNat (⟨#[]⟩, ([], []))).1, ((v43.set r42.toNat (a7, (v43.getD r42.toNat (⟨#[]⟩, (0, (false, (false, (0, (0, ⟨#[]⟩))))))).2)), (r15.getD r17.toNat (⟨#[]⟩, ([], []))).2.2))); ((slices_Index_string_string n (v44.getD r17.toNat (⟨#[]⟩, ([], []))).2.2 a6).bind fun r45 => (bif (decide ((0 : Int) ≤ r45)) then (bif (inR r45 (v44.getD r17.toNat (⟨#[]⟩, ([], []))).2.2.length) then (let v46 := (v44.getD r17.toNat (⟨#[]⟩, ([], []))).2.2; (let v47 := (v44.set r17.toNat ((v44.getD r17.toNat (⟨#[]⟩, ([], []))).1, ((v44.getD r17.toNat (⟨#[]⟩, ([], []))).2.1, (v46.set r45.toNat a7)))); (some (v47, ((0 : Int), ()))))) else none) else (some (v44, ((0 : Int), ()))))))) else none))) else none) else (some (r15, ((0 : Int), ()))))))))))))))))))
/-- slices.Insert[[]loop.example/g00462/impl.Rows,loop.example/g00462/impl.Rows] -/
def slices_Insert_impl_Rows_impl_Rows : Nat → Y10 → Int → Y10 → Option Y10
  | 0, _, _, _ => none
  | n + 1, a1, a2, a3 => insF 24 a1 a2 a3
/-- slices.Delete[[]loop.example/g00462/impl.Rows,loop.example/g00462/impl.Rows] -/
def slices_Delete_impl_Rows_impl_Rows : Nat → Y10 → Int → Int → Option Y10
  | 0, _, _, _ => none
  | n + 1, a1, a2, a3 => delF a1 a2 a3
/-- slices.Delete[[]loop.example/g00462/impl.Val,loop.example/g00462/impl.Val] -/
def slices_Delete_impl_Val_impl_Val : Nat → Y3 → Int → Int → Option Y3
  | 0, _, _, _ => none
  | n + 1, a1, a2, a3 => delF a1 a2 a3
def impl_RowsDdl_L1 (n : Nat) : Nat → Int → Int → Int → ByteArray → Y15 → List ByteArray → ByteArray → ByteArray → Y5 → Option Y13
  | 0, _, _, _, _, _, _, _, _, _ => none
  | j + 1, x23, x24, x25, x26, x27, x28, x29, x30, x31 => (bif (decide (x24 < x23)) then (bif (inR x24 x31.length) then (bif (inR (0 : Int) x27.length) then (let v32 := (x27.getD (0 : Int).toNat (⟨#[]⟩, (0, (false, (false, (0, (0, ⟨#[]⟩))))))); (let v33 : Y2 := [(v32.2.2.2.2.1, (v32.2.2.2.2.2.1, v32.2.2.2.2.2.2))]; (bif (room ((x31.getD x24.toNat []).length + v33.length) 32) then (let v34 := ((x31.getD x24.toNat []) ++ v33); (bif (inR x24 x31.length) then (bif (Nat.beq x24.toNat x24.toNat) then (impl_RowsDdl_L1 n j x23 (IntKind.wrap .i64 (x24 + 1)) x25 x26 x27 x28 x29 x30 (x31.set x24.toNat v34)) else none) else none)) else none))) else none) else none) else (some (x31, ((0 : Int), ()))))
def impl_RowsDdl_L2 (n : Nat) : Nat → Int → Int → Int → Y5 → Option Y13
  | 0, _, _, _, _ => none
  | j + 1, x36, x37, x38, x39 => (bif (decide (x38 < x37)) then (bif (inR x38 x39.length) then ((slices_Delete_impl_Val_impl_Val n (x39.getD x38.toNat []) x36 (IntKind.wrap .i64 (x36 + 1))).bind fun r40 => (bif (inR x38 x39.length) then (bif (Nat.beq x38.toNat x38.toNat) then (impl_RowsDdl_L2 n j x36 x37 (IntKind.wrap .i64 (x38 + 1)) (x39.set x38.toNat r40)) else none) else none)) else none) else (some (x39, ((0 : Int), ()))))
/-- loop.example/g00462/impl.RowsDdl -/
def impl_RowsDdl : Nat → ByteArray → Y16 → (List ByteArray) → Y6 → Int → ByteArray → Y16 → (List ByteArray) → ByteArray → ByteArray → Option Y13
  | 0, _, _, _, _, _, _, _, _, _, _ => none
  | n + 1, a1, a2, a3, a4, a5, a6, a7, a8, a9, a10 => (let v11 : Y5 := []; ((impl_RowsOk n a1 a2 a3 a4).bind fun r12 => (bif (!r12) then (let v13 : Y5 := []; (some (v13, ((1 : Int), ())))) else ((impl_DdlOk n a5 a6 a7 a8 a9 a10).bind fun r14 => (bif (!r14) then (let v15 : Y5 := []; (some (v15, ((1 : Int), ())))) else (bif (!(a6.toList == a1.toList)) then (let v16 : Y5 := []; (some (v16, ((1 : Int), ())))) else (bif (a5 == 1) then (let v17 : Y5 := []; (some (v17, ((1 : Int), ())))) else (let v18 : Y19 := [(a1, (a2, a3))]; ((impl_ddlCode n v18 a5 a6 a7 a8 a9 a10).bind fun r19 => (bif (r19 != 0) then (let v20 : Y5 := []; (some (v20, (r19, ())))) else ((impl_copyRows n a4).bind fun r21 => (bif (a5 == 2) then (let v22 : Y5 := []; (some (v22, ((0 : Int), ())))) else (bif (a5 == 3) then (impl_RowsDdl_L1 n n (r21.length : Int) (0 : Int) a5 a6 a7 a8 a9 a10 r21) else (bif (a5 == 4) then ((impl_ColAt n a1 a2 a3 a9).bind fun r35 => (impl_RowsDdl_L2 n n r35 (r21.length : Int) (0 : Int) r21)) else (some (r21, ((0 : Int), ())))))))))))))))))
/-- loop.example/g00462/impl.changed -/
def impl_changed : Nat → Y20 → Y10 → Int → ByteArray → Y16 → (List ByteArray) → ByteArray → ByteArray → Option (Y27 × (Int × Unit))
  | 0, _, _, _, _, _, _, _, _ => none
  | n + 1, a1, a2, a3, a4, a5, a6, a7, a8 => (let v9 : Y19 := []; let v10 : Y8 := []; ((impl_DdlApply n a1 a3 a4 a5 a6 a7 a8).bind fun r11 => (let v12 : Y19 := []; (bif (r11.2.1 != 0) then (let v13 : Y19 := []; let v14 : Y8 := []; (some ((v13, v14), (r11.2.1, ())))) else ((impl_copyDb n a1 a2).bind fun r15 => (let v16 : Y19 := []; let v17 : Y8 := []; ((impl_Cat_at n a1 a4).bind fun r18 => (bif (a3 == 1) then ((impl_Cat_at n r11.1 a4).bind fun r19 => (let v20 : Y5 := []; (let v21 : Y8 := [v20]; ((slices_Insert_impl_Rows_impl_Rows n r15.2 r19 v21).bind fun r22 => (some ((r11.1, r22), ((0 : Int), ()))))))) else (bif (a3 == 2) then ((slices_Delete_impl_Rows_impl_Rows n r15.2 r18 (IntKind.wrap .i64 (r18 + 1))).bind fun r23 => (some ((r11.1, r23), ((0 : Int), ())))) else (bif (inR r18 a1.length) then (let v24 := (a1.getD r18.toNat (⟨#[]⟩, ([], []))); (bif (inR r18 a2.length) then (let v25 := (a2.getD r18.toNat []); ((impl_RowsDdl n v24.1 v24.2.1 v24.2.2 v25 a3 a4 a5 a6 a7 a8).bind fun r26 => (bif (inR r18 r15.2.length) then (some ((r11.1, (r15.2.set r18.toNat r26.1)), ((0 : Int), ()))) else none))) else none)) else none))))))))))
def slices_Equal_impl_Val_impl_Val_L1 (n : Nat) : Nat → Y2 → Y2 → Int → Int → Option Bool
  | 0, _, _, _, _ => none
  | j + 1, x4, x5, x6, x7 => (bif (decide (x7 < x6)) then (bif (inR x7 x4.length) then (let v8 := (x4.getD x7.toNat (0, (0, ⟨#[]⟩))); (bif (inR x7 x5.length) then (let v9 := (x5.getD x7.toNat (0, (0, ⟨#[]⟩))); (let v10 : Bool := (!((v8.1 == v9.1) && ((v8.2.1 == v9.2.1) && ((v8.2.2.toList == v9.2.2.toList) && true)))); (bif v10 then (some false) else (slices_Equal_impl_Val_impl_Val_L1 n j x4 x5 x6 (IntKind.wrap .i64 (x7 + 1)))))) else none)) else none) else (some true))
/-- slices.Equal[[]loop.example/g00462/impl.Val,loop.example/g00462/impl.Val] -/
def slices_Equal_impl_Val_impl_Val : Nat → Y3 → Y3 → Option Bool
  | 0, _, _ => none
  | n + 1, a1, a2 => (let v3 : Bool := ((a1.length : Int) != (a2.length : Int)); (bif v3 then (some false) else (slices_Equal_impl_Val_impl_Val_L1 n n a1 a2 (a1.length : Int) (0 : Int))))
/-- loop.example/g00462/impl.rowAt$1 -/
def impl_rowAt_1 : Nat → Y3 → Y18 → Y3 → Option Bool
  | 0, _, _, _ => none
  | n + 1, a1, a2, a3 => ((impl_keyOf n a2.1 a2.2.1 a2.2.2 a1).bind fun r4 => ((slices_Equal_impl_Val_impl_Val n r4 a3).bind fun r5 => (some r5)))
def slices_IndexFunc_impl_Row_impl_Row__impl_rowAt_1_L1 (n : Nat) : Nat → Y5 → Y18 → Y3 → Int → Int → Option Int
  | 0, _, _, _, _, _ => none
  | j + 1, x4, x5, x6, x7, x8 => (bif (decide (x8 < x7)) then (bif (inR x8 x4.length) then (let v9 := (x4.getD x8.toNat []); ((impl_rowAt_1 n v9 x5 x6).bind fun r10 => (bif r10 then (some x8) else (slices_IndexFunc_impl_Row_impl_Row__impl_rowAt_1_L1 n j x4 x5 x6 x7 (IntKind.wrap .i64 (x8 + 1)))))) else none) else (some (-1 : Int)))
/-- slices.IndexFunc[[]loop.example/g00462/impl.Row,loop.example/g00462/impl.Row] -/
def slices_IndexFunc_impl_Row_impl_Row__impl_rowAt_1 : Nat → Y6 → Y18 → Y3 → Option Int
  | 0, _, _, _ => none
  | n + 1, a1, a2, a3 => (slices_IndexFunc_impl_Row_impl_Row__impl_rowAt_1_L1 n n a1 a2 a3 (a1.length : Int) (0 : Int))
/-- loop.example/g00462/impl.rowAt -/
def impl_rowAt : Nat → ByteArray → Y16 → (List ByteArray) → Y6 → Y3 → Option Int
  | 0, _, _, _, _, _ => none
  | n + 1, a1, a2, a3, a4, a5 => ((slices_IndexFunc_impl_Row_impl_Row__impl_rowAt_1 n a4 (a1, (a2, a3)) a5).bind fun r6 => (some r6))
/-- slices.Insert[[]loop.example/g00462/impl.Row,loop.example/g00462/impl.Row] -/
def slices_Insert_impl_Row_impl_Row : Nat → Y6 → Int → Y6 → Option Y6
  | 0, _, _, _ => none
  | n + 1, a1, a2, a3 => insF 24 a1 a2 a3
def impl_placed_L1 (n : Nat) : Nat → Y5 → Int → ByteArray → Y15 → List ByteArray → Y2 → Option Y6
  | 0, _, _, _, _, _, _ => none
  | j + 1, x7, x8, x9, x10, x11, x12 => (bif (decide (x8 < (x7.length : Int))) then (bif (inR x8 x7.length) then (let v13 := (x7.getD x8.toNat []); ((impl_keyOf n x9 x10 x11 v13).bind fun r14 => ((impl_keyOf n x9 x10 x11 x12).bind fun r15 => ((impl_KeyLess n r14 r15).bind fun r16 => (bif r16 then (impl_placed_L1 n j x7 (IntKind.wrap .i64 (x8 + 1)) x9 x10 x11 x12) else ((impl_copyRows n x7).bind fun r17 => ((impl_copyVals n x12).bind fun r18 => (let v19 : Y5 := [r18]; ((slices_Insert_impl_Row_impl_Row n r17 x8 v19).bind fun r20 => (some r20)))))))))) else none) else ((impl_copyRows n x7).bind fun r21 => ((impl_copyVals n x12).bind fun r22 => (let v23 : Y5 := [r22]; ((slices_Insert_impl_Row_impl_Row n r21 x8 v23).bind fun r24 => (some r24))))))
/-- loop.example/g00462/impl.placed -/
def impl_placed : Nat → ByteArray → Y16 → (List ByteArray) → Y6 → Y3 → Option Y6
  | 0, _, _, _, _, _ => none
  | n + 1, a1, a2, a3, a4, a5 => (let v6 : Y5 := []; (impl_placed_L1 n n a4 (0 : Int) a1 a2 a3 a5))
/-- loop.example/g00462/impl.RowPut -/
def impl_RowPut : Nat → ByteArray → Y16 → (List ByteArray) → Y6 → Y3 → Option Y13
  | 0, _, _, _, _, _ => none
  | n + 1, a1, a2, a3, a4, a5 => (let v6 : Y5 := []; ((impl_RowsOk n a1 a2 a3 a4).bind fun r7 => (bif (!r7) then (let v8 : Y5 := []; (some (v8, ((1 : Int), ())))) else ((impl_rowOk n a1 a2 a3 a5).bind fun r9 => (bif (!r9) then (let v10 : Y5 := []; (some (v10, ((2 : Int), ())))) else ((impl_keyOf n a1 a2 a3 a5).bind fun r11 => ((impl_rowAt n a1 a2 a3 a4 r11).bind fun r12 => (bif (decide ((0 : Int) ≤ r12)) then (let v13 : Y5 := []; (some (v13, ((3 : Int), ())))) else (bif ((a4.length : Int) == 60) then (let v14 : Y5 := []; (some (v14, ((4 : Int), ())))) else ((impl_placed n a1 a2 a3 a4 a5).bind fun r15 => (some (r15, ((0 : Int), ())))))))))))))
def impl_KeyOk_L1 (n : Nat) : Nat → Y2 → List ByteArray → Int → Int → ByteArray → Y15 → List ByteArray → Option Bool
  | 0, _, _, _, _, _, _, _ => none
  | j + 1, x7, x8, x9, x10, x11, x12, x13 => (bif (decide (x10 < x9)) then (bif (inR x10 x8.length) then (bif (inR x10 x7.length) then (let v14 := (x7.getD x10.toNat (0, (0, ⟨#[]⟩))); ((impl_ValOk n v14.1 v14.2.1 v14.2.2).bind fun r15 => (bif (!r15) then (some false) else (bif (inR x10 x7.length) then (let v16 := (x7.getD x10.toNat (0, (0, ⟨#[]⟩))); ((impl_ColAt n x11 x12 x13 (x8.getD x10.toNat ⟨#[]⟩)).bind fun r17 => (bif (inR r17 x12.length) then (let v18 := (x12.getD r17.toNat (⟨#[]⟩, (0, (false, (false, (0, (0, ⟨#[]⟩))))))); (bif (v16.1 != v18.2.1) then (some false) else (impl_KeyOk_L1 n j x7 x8 x9 (IntKind.wrap .i64 (x10 + 1)) x11 x12 x13))) else none))) else none)))) else none) else none) else (some true))
/-- loop.example/g00462/impl.KeyOk -/
def impl_KeyOk : Nat → ByteArray → Y16 → (List ByteArray) → Y3 → Option Bool
  | 0, _, _, _, _ => none
  | n + 1, a1, a2, a3, a4 => ((impl_TableOk n a1 a2 a3).bind fun r5 => (bif (!r5) then (some false) else (let v6 : Bool := ((a4.length : Int) != (a3.length : Int)); (bif v6 then (some false) else (impl_KeyOk_L1 n n a4 a3 (a3.length : Int) (0 : Int) a1 a2 a3)))))
/-- slices.Delete[[]loop.example/g00462/impl.Row,loop.example/g00462/impl.Row] -/
def slices_Delete_impl_Row_impl_Row : Nat → Y6 → Int → Int → Option Y6
  | 0, _, _, _ => none
  | n + 1, a1, a2, a3 => delF a1 a2 a3
/-- loop.example/g00462/impl.RowSet -/
def impl_RowSet : Nat → ByteArray → Y16 → (List ByteArray) → Y6 → Y3 → Y3 → Option Y13
  | 0, _, _, _, _, _, _ => none
  | n + 1, a1, a2, a3, a4, a5, a6 => (let v7 : Y5 := []; ((impl_RowsOk n a1 a2 a3 a4).bind fun r8 => (bif (!r8) then (let v9 : Y5 := []; (some (v9, ((1 : Int), ())))) else ((impl_rowOk n a1 a2 a3 a6).bind fun r10 => (bif (!r10) then (let v11 : Y5 := []; (some (v11, ((2 : Int), ())))) else ((impl_KeyOk n a1 a2 a3 a5).bind fun r12 => (bif (!r12) then (let v13 : Y5 := []; (some (v13, ((5 : Int), ())))) else ((impl_rowAt n a1 a2 a3 a4 a5).bind fun r14 => (bif (decide (r14 < 0)) then (let v15 : Y5 := []; (some (v15, ((5 : Int), ())))) else ((impl_keyOf n a1 a2 a3 a6).bind fun r16 => ((slices_Equal_impl_Val_impl_Val n r16 a5).bind fun r17 => (bif (!r17) then ((impl_rowAt n a1 a2 a3 a4 r16).bind fun r18 => (bif (decide ((0 : Int) ≤ r18)) then (let v19 : Y5 := []; (some (v19, ((3 : Int), ())))) else ((impl_rowAt n a1 a2 a3 a4 a5).bind fun r20 => ((impl_copyRows n a4).bind fun r21 => ((slices_Delete_impl_Row_impl_Row n r21 r20 (IntKind.wrap .i64 (r20 + 1))).bind fun r22 => ((impl_placed n a1 a2 a3 r22 a6).bind fun r23 => (some (r23, ((0 : Int), ()))))))))) else ((impl_rowAt n a1 a2 a3 a4 a5).bind fun r24 => ((impl_copyRows n a4).bind fun r25 => ((slices_Delete_impl_Row_impl_Row n r25 r24 (IntKind.wrap .i64 (r24 + 1))).bind fun r26 => ((impl_placed n a1 a2 a3 r26 a6).bind fun r27 => (some (r27, ((0 : Int), ())))))))))))))))))))
/-- loop.example/g00462/impl.RowOut -/
def impl_RowOut : Nat → ByteArray → Y16 → (List ByteArray) → Y6 → Y3 → Option Y13
  | 0, _, _, _, _, _ => none
  | n + 1, a1, a2, a3, a4, a5 => (let v6 : Y5 := []; ((impl_RowsOk n a1 a2 a3 a4).bind fun r7 => (bif (!r7) then (let v8 : Y5 := []; (some (v8, ((1 : Int), ())))) else ((impl_KeyOk n a1 a2 a3 a5).bind fun r9 => (bif (!r9) then (let v10 : Y5 := []; (some (v10, ((5 : Int), ())))) else ((impl_rowAt n a1 a2 a3 a4 a5).bind fun r11 => (bif (decide (r11 < 0)) then (let v12 : Y5 := []; (some (v12, ((5 : Int), ())))) else ((impl_rowAt n a1 a2 a3 a4 a5).bind fun r13 => ((impl_copyRows n a4).bind fun r14 => ((slices_Delete_impl_Row_impl_Row n r14 r13 (IntKind.wrap .i64 (r13 + 1))).bind fun r15 => (some (r15, ((0 : Int), ())))))))))))))
/-- loop.example/g00462/impl.exec -/
def impl_exec : Nat → Y20 → Y10 → Int → ByteArray → Y3 → Y3 → Int → ByteArray → Y16 → (List ByteArray) → ByteArray → ByteArray → Option (Y27 × (Int × Unit))
  | 0, _, _, _, _, _, _, _, _, _, _, _, _ => none
  | n + 1, a1, a2, a3, a4, a5, a6, a7, a8, a9, a10, a11, a12 => (let v13 : Y19 := []; let v14 : Y8 := []; ((impl_Cat_at n a1 a4).bind fun r15 => (bif (decide (r15 < 0)) then (bif (a3 != 5) then (let v16 : Y19 := []; let v17 : Y8 := []; (some ((v16, v17), ((4 : Int), ())))) else (bif (a7 != 1) then (let v18 : Y19 := []; let v19 : Y8 := []; (some ((v18, v19), ((4 : Int), ())))) else (bif (a3 == 5) then ((impl_changed n a1 a2 a7 a8 a9 a10 a11 a12).bind fun r20 => (let v21 : Y19 := []; let v22 : Y8 := []; (bif (r20.2.1 != 0) then (let v23 : Y19 := []; let v24 : Y8 := []; (let v25 : Int := (IntKind.wrap .i64 ((10 : Int) + r20.2.1)); (some ((v23, v24), (v25, ()))))) else (some ((r20.1.1, r20.1.2), ((0 : Int), ())))))) else (bif (inR r15 a1.length) then (let v26 := (a1.getD r15.toNat (⟨#[]⟩, ([], []))); (bif (inR r15 a2.length) then (let v27 := (a2.getD r15.toNat []); (let v28 : Y15 := []; (bif (a3 == 1) then ((impl_RowPut n v26.1 v26.2.1 v26.2.2 v27 a6).bind fun r29 => (bif (r29.2.1 != 0) then (let v30 : Y19 := []; let v31 : Y8 := []; (let v32 : Int := (IntKind.wrap .i64 ((10 : Int) + r29.2.1)); (some ((v30, v31), (v32, ()))))) else ((impl_copyDb n a1 a2).bind fun r33 => (let v34 : Y19 := []; let v35 : Y8 := []; (bif (inR r15 r33.2.length) then (some ((r33.1, (r33.2.set r15.toNat r29.1)), ((0 : Int), ()))) else none))))) else (bif (a3 == 2) then ((impl_RowSet n v26.1 v26.2.1 v26.2.2 v27 a5 a6).bind fun r36 => (bif (r36.2.1 != 0) then (let v37 : Y19 := []; let v38 : Y8 := []; (let v39 : Int := (IntKind.wrap .i64 ((10 : Int) + r36.2.1)); (some ((v37, v38), (v39, ()))))) else ((impl_copyDb n a1 a2).bind fun r40 => (let v41 : Y19 := []; let v42 : Y8 := []; (bif (inR r15 r40.2.length) then (some ((r40.1, (r40.2.set r15.toNat r36.1)), ((0 : Int), ()))) else none))))) else (bif (a3 == 3) then ((impl_RowOut n v26.1 v26.2.1 v26.2.2 v27 a5).bind fun r43 => (bif (r43.2.1 != 0) then (let v44 : Y19 := []; let v45 : Y8 := []; (let v46 : Int := (IntKind.wrap .i64 ((10 : Int) + r43.2.1)); (some ((v44, v45), (v46, ()))))) else ((impl_copyDb n a1 a2).bind fun r47 => (let v48 : Y19 := []; let v49 : Y8 := []; (bif (inR r15 r47.2.length) then (some ((r47.1, (r47.2.set r15.toNat r43.1)), ((0 : Int), ()))) else none))))) else (let v50 : Y5 := []; (bif ((0 : Int) != 0) then (let v51 : Y19 := []; let v52 : Y8 := []; (let v53 : Int := (IntKind.wrap .i64 ((10 : Int) + 0)); (some ((v51, v52), (v53, ()))))) else ((impl_copyDb n a1 a2).bind fun r54 => (let v55 : Y19 := []; let v56 : Y8 := []; (bif (inR r15 r54.2.length) then (some ((r54.1, (r54.2.set r15.toNat v50)), ((0 : Int), ()))) else none)))))))))) else none)) else none)))) else (bif (a3 == 5) then ((impl_changed n a1 a2 a7 a8 a9 a10 a11 a12).bind fun r57 => (let v58 : Y19 := []; let v59 : Y8 := []; (bif (r57.2.1 != 0) then (let v60 : Y19 := []; let v61 : Y8 := []; (let v62 : Int := (IntKind.wrap .i64 ((10 : Int) + r57.2.1)); (some ((v60, v61), (v62, ()))))) else (some ((r57.1.1, r57.1.2), ((0 : Int), ())))))) else (bif (inR r15 a1.length) then (let v63 := (a1.getD r15.toNat (⟨#[]⟩, ([], []))); (bif (inR r15 a2.length) then (let v64 := (a2.getD r15.toNat []); (let v65 : Y15 := []; (bif (a3 == 1) then ((impl_RowPut n v63.1 v63.2.1 v63.2.2 v64 a6).bind fun r66 => (bif (r66.2.1 != 0) then (let v67 : Y19 := []; let v68 : Y8 := []; (let v69 : Int := (IntKind.wrap .i64 ((10 : Int) + r66.2.1)); (some ((v67, v68), (v69, ()))))) else ((impl_copyDb n a1 a2).bind fun r70 => (let v71 : Y19 := []; let v72 : Y8 := []; (bif (inR r15 r70.2.length) then (some ((r70.1, (r70.2.set r15.toNat r66.1)), ((0 : Int), ()))) else none))))) else (bif (a3 == 2) then ((impl_RowSet n v63.1 v63.2.1 v63.2.2 v64 a5 a6).bind fun r73 => (bif (r73.2.1 != 0) then (let v74 : Y19 := []; let v75 : Y8 := []; (let v76 : Int := (IntKind.wrap .i64 ((10 : Int) + r73.2.1)); (some ((v74, v75), (v76, ()))))) else ((impl_copyDb n a1 a2).bind fun r77 => (let v78 : Y19 := []; let v79 : Y8 := []; (bif (inR r15 r77.2.length) then (some ((r77.1, (r77.2.set r15.toNat r73.1)), ((0 : Int), ()))) else none))))) else (bif (a3 == 3) then ((impl_RowOut n v63.1 v63.2.1 v63.2.2 v64 a5).bind fun r80 => (bif (r80.2.1 != 0) then (let v81 : Y19 := []; let v82 : Y8 := []; (let v83 : Int := (IntKind.wrap .i64 ((10 : Int) + r80.2.1)); (some ((v81, v82), (v83, ()))))) else ((impl_copyDb n a1 a2).bind fun r84 => (let v85 : Y19 := []; let v86 : Y8 := []; (bif (inR r15 r84.2.length) then (some ((r84.1, (r84.2.set r15.toNat r80.1)), ((0 : Int), ()))) else none))))) else (let v87 : Y5 := []; (bif ((0 : Int) != 0) then (let v88 : Y19 := []; let v89 : Y8 := []; (let v90 : Int := (IntKind.wrap .i64 ((10 : Int) + 0)); (some ((v88, v89), (v90, ()))))) else ((impl_copyDb n a1 a2).bind fun r91 => (let v92 : Y19 := []; let v93 : Y8 := []; (bif (inR r15 r91.2.length) then (some ((r91.1, (r91.2.set r15.toNat v87)), ((0 : Int), ()))) else none)))))))))) else none)) else none)))))
def impl_ExecAll_L1 (n : Nat) : Nat → Y32 → Int → Int → Y19 → Y8 → Y19 → Y8 → Option (Y27 × (Int × (Int × Unit)))
  | 0, _, _, _, _, _, _, _ => none
  | j + 1, x12, x13, x14, x15, x16, x17, x18 => (bif (decide (x14 < x13)) then (bif (inR x14 x12.length) then (let v19 := (x12.getD x14.toNat (0, (⟨#[]⟩, ([], ([], (0, (⟨#[]⟩, ([], ([], (⟨#[]⟩, ⟨#[]⟩)))))))))); (let v20 : Y15 := []; ((impl_StmtOk n v19.1 v19.2.1 v19.2.2.1 v19.2.2.2.1 v19.2.2.2.2.1 v19.2.2.2.2.2.1 v19.2.2.2.2.2.2.1 v19.2.2.2.2.2.2.2.1 v19.2.2.2.2.2.2.2.2.1 v19.2.2.2.2.2.2.2.2.2).bind fun r21 => (bif (!r21) then (let v22 : Y19 := []; let v23 : Y8 := []; (some ((v22, v23), ((1 : Int), (x14, ()))))) else ((impl_exec n x17 x18 v19.1 v19.2.1 v19.2.2.1 v19.2.2.2.1 v19.2.2.2.2.1 v19.2.2.2.2.2.1 v19.2.2.2.2.2.2.1 v19.2.2.2.2.2.2.2.1 v19.2.2.2.2.2.2.2.2.1 v19.2.2.2.2.2.2.2.2.2).bind fun r24 => (let v25 : Y19 := []; let v26 : Y8 := []; (bif (r24.2.1 != 0) then (let v27 : Y19 := []; let v28 : Y8 := []; (some ((v27, v28), (r24.2.1, (x14, ()))))) else (impl_ExecAll_L1 n j x12 x13 (IntKind.wrap .i64 (x14 + 1)) x15 x16 r24.1.1 r24.1.2)))))))) else none) else (some ((x17, x18), ((0 : Int), ((0 : Int), ())))))
/-- loop.example/g00462/impl.ExecAll -/
def impl_ExecAll : Nat → Y20 → Y10 → Y33 → Option (Y27 × (Int × (Int × Unit)))
  | 0, _, _, _ => none
  | n + 1, a1, a2, a3 => (let v4 : Y19 := []; let v5 : Y8 := []; ((impl_DbOk n a1 a2).bind fun r6 => (bif (!r6) then (let v7 : Y19 := []; let v8 : Y8 := []; (some ((v7, v8), ((1 : Int), ((0 : Int), ()))))) else ((impl_copyDb n a1 a2).bind fun r9 => (let v10 : Y19 := []; let v11 : Y8 := []; (impl_ExecAll_L1 n n a3 (a3.length : Int) (0 : Int) v4 v5 r9.1 r9.2))))))
/-- loop.example/g00462/laws.eqVal -/
def laws_eqVal : Nat → Int → Int → ByteArray → Int → Int → ByteArray → Option Bool
  | 0, _, _, _, _, _, _ => none
  | n + 1, a1, a2, a3, a4, a5, a6 => (bif (a1 != a4) then (some false) else (bif (a2 != a5) then (some false) else (bif (!(a3.toList == a6.toList)) then (some false) else (some true))))
/-- loop.example/g00462/laws.eqCol -/
def laws_eqCol : Nat → ByteArray → Int → Bool → Bool → Int → Int → ByteArray → ByteArray → Int → Bool → Bool → Int → Int → ByteArray → Option Bool
  | 0, _, _, _, _, _, _, _, _, _, _, _, _, _, _ => none
  | n + 1, a1, a2, a3, a4, a5, a6, a7, a8, a9, a10, a11, a12, a13, a14 => (bif (!(a1.toList == a8.toList)) then (some false) else (bif (a2 != a9) then (some false) else (bif (!(a3 == a10)) then (some false) else (bif (!(a4 == a11)) then (some false) else ((laws_eqVal n a5 a6 a7 a12 a13 a14).bind fun r15 => (bif (!r15) then (some false) else (some true)))))))
def laws_eqColS_L1 (n : Nat) : Nat → Y15 → Y15 → Int → Option Bool
  | 0, _, _, _ => none
  | j + 1, x4, x5, x6 => (bif (decide (x6 < (x4.length : Int))) then (bif (inR x6 x4.length) then (let v7 := (x4.getD x6.toNat (⟨#[]⟩, (0, (false, (false, (0, (0, ⟨#[]⟩))))))); (bif (inR x6 x5.length) then (let v8 := (x5.getD x6.toNat (⟨#[]⟩, (0, (false, (false, (0, (0, ⟨#[]⟩))))))); ((laws_eqCol n v7.1 v7.2.1 v7.2.2.1 v7.2.2.2.1 v7.2.2.2.2.1 v7.2.2.2.2.2.1 v7.2.2.2.2.2.2 v8.1 v8.2.1 v8.2.2.1 v8.2.2.2.1 v8.2.2.2.2.1 v8.2.2.2.2.2.1 v8.2.2.2.2.2.2).bind fun r9 => (bif (!r9) then (some false) else (laws_eqColS_L1 n j x4 x5 (IntKind.wrap .i64 (x6 + 1)))))) else none)) else none) else (some true))
/-- loop.example/g00462/laws.eqColS -/
def laws_eqColS : Nat → Y16 → Y16 → Option Bool
  | 0, _, _ => none
  | n + 1, a1, a2 => (let v3 : Bool := ((a1.length : Int) != (a2.length : Int)); (bif v3 then (some false) else (laws_eqColS_L1 n n a1 a2 (0 : Int))))
def laws_eqStringS_L1 (n : Nat) : Nat → List ByteArray → List ByteArray → Int → Option Bool
  | 0, _, _, _ => none
  | j + 1, x4, x5, x6 => (bif (decide (x6 < (x4.length : Int))) then (bif (inR x6 x4.length) then (bif (inR x6 x5.length) then (let v7 : Bool := (!((x4.getD x6.toNat ⟨#[]⟩).toList == (x5.getD x6.toNat ⟨#[]⟩).toList)); (bif v7 then (some false) else (laws_eqStringS_L1 n j x4 x5 (IntKind.wrap .i64 (x6 + 1))))) else none) else none) else (some true))
/-- loop.example/g00462/laws.eqStringS -/
def laws_eqStringS : Nat → (List ByteArray) → (List ByteArray) → Option Bool
  | 0, _, _ => none
  | n + 1, a1, a2 => (let v3 : Bool := ((a1.length : Int) != (a2.length : Int)); (bif v3 then (some false) else (laws_eqStringS_L1 n n a1 a2 (0 : Int))))
/-- loop.example/g00462/laws.eqTable -/
def laws_eqTable : Nat → ByteArray → Y16 → (List ByteArray) → ByteArray → Y16 → (List ByteArray) → Option Bool
  | 0, _, _, _, _, _, _ => none
  | n + 1, a1, a2, a3, a4, a5, a6 => (bif (!(a1.toList == a4.toList)) then (some false) else ((laws_eqColS n a2 a5).bind fun r7 => (bif (!r7) then (some false) else ((laws_eqStringS n a3 a6).bind fun r8 => (bif (!r8) then (some false) else (some true))))))
def laws_eqTableS_L1 (n : Nat) : Nat → Y19 → Y19 → Int → Option Bool
  | 0, _, _, _ => none
  | j + 1, x4, x5, x6 => (bif (decide (x6 < (x4.length : Int))) then (bif (inR x6 x4.length) then (let v7 := (x4.getD x6.toNat (⟨#[]⟩, ([], []))); (bif (inR x6 x5.length) then (let v8 := (x5.getD x6.toNat (⟨#[]⟩, ([], []))); ((laws_eqTable n v7.1 v7.2.1 v7.2.2 v8.1 v8.2.1 v8.2.2).bind fun r9 => (bif (!r9) then (some false) else (laws_eqTableS_L1 n j x4 x5 (IntKind.wrap .i64 (x6 + 1)))))) else none)) else none) else (some true))
/-- loop.example/g00462/laws.eqTableS -/
def laws_eqTableS : Nat → Y20 → Y20 → Option Bool
  | 0, _, _ => none
  | n + 1, a1, a2 => (let v3 : Bool := ((a1.length : Int) != (a2.length : Int)); (bif v3 then (some false) else (laws_eqTableS_L1 n n a1 a2 (0 : Int))))
/-- loop.example/g00462/laws.eqCat -/
def laws_eqCat : Nat → Y20 → Y20 → Option Bool
  | 0, _, _ => none
  | n + 1, a1, a2 => ((laws_eqTableS n a1 a2).bind fun r3 => (bif (!r3) then (some false) else (some true)))
def laws_eqValS_L1 (n : Nat) : Nat → Y2 → Y2 → Int → Option Bool
  | 0, _, _, _ => none
  | j + 1, x4, x5, x6 => (bif (decide (x6 < (x4.length : Int))) then (bif (inR x6 x4.length) then (let v7 := (x4.getD x6.toNat (0, (0, ⟨#[]⟩))); (bif (inR x6 x5.length) then (let v8 := (x5.getD x6.toNat (0, (0, ⟨#[]⟩))); ((laws_eqVal n v7.1 v7.2.1 v7.2.2 v8.1 v8.2.1 v8.2.2).bind fun r9 => (bif (!r9) then (some false) else (laws_eqValS_L1 n j x4 x5 (IntKind.wrap .i64 (x6 + 1)))))) else none)) else none) else (some true))
/-- loop.example/g00462/laws.eqValS -/
def laws_eqValS : Nat → Y3 → Y3 → Option Bool
  | 0, _, _ => none
  | n + 1, a1, a2 => (let v3 : Bool := ((a1.length : Int) != (a2.length : Int)); (bif v3 then (some false) else (laws_eqValS_L1 n n a1 a2 (0 : Int))))
/-- loop.example/g00462/laws.eqRow -/
def laws_eqRow : Nat → Y3 → Y3 → Option Bool
  | 0, _, _ => none
  | n + 1, a1, a2 => ((laws_eqValS n a1 a2).bind fun r3 => (bif (!r3) then (some false) else (some true)))
def laws_eqRowS_L1 (n : Nat) : Nat → Y5 → Y5 → Int → Option Bool
  | 0, _, _, _ => none
  | j + 1, x4, x5, x6 => (bif (decide (x6 < (x4.length : Int))) then (bif (inR x6 x4.length) then (let v7 := (x4.getD x6.toNat []); (bif (inR x6 x5.length) then (let v8 := (x5.getD x6.toNat []); ((laws_eqRow n v7 v8).bind fun r9 => (bif (!r9) then (some false) else (laws_eqRowS_L1 n j x4 x5 (IntKind.wrap .i64 (x6 + 1)))))) else none)) else none) else (some true))
/-- loop.example/g00462/laws.eqRowS -/
def laws_eqRowS : Nat → Y6 → Y6 → Option Bool
  | 0, _, _ => none
  | n + 1, a1, a2 => (let v3 : Bool := ((a1.length : Int) != (a2.length : Int)); (bif v3 then (some false) else (laws_eqRowS_L1 n n a1 a2 (0 : Int))))
/-- loop.example/g00462/laws.eqRows -/
def laws_eqRows : Nat → Y6 → Y6 → Option Bool
  | 0, _, _ => none
  | n + 1, a1, a2 => ((laws_eqRowS n a1 a2).bind fun r3 => (bif (!r3) then (some false) else (some true)))
def laws_eqRowsS_L1 (n : Nat) : Nat → Y8 → Y8 → Int → Option Bool
  | 0, _, _, _ => none
  | j + 1, x4, x5, x6 => (bif (decide (x6 < (x4.length : Int))) then (bif (inR x6 x4.length) then (let v7 := (x4.getD x6.toNat []); (bif (inR x6 x5.length) then (let v8 := (x5.getD x6.toNat []); ((laws_eqRows n v7 v8).bind fun r9 => (bif (!r9) then (some false) else (laws_eqRowsS_L1 n j x4 x5 (IntKind.wrap .i64 (x6 + 1)))))) else none)) else none) else (some true))
/-- loop.example/g00462/laws.eqRowsS -/
def laws_eqRowsS : Nat → Y10 → Y10 → Option Bool
  | 0, _, _ => none
  | n + 1, a1, a2 => (let v3 : Bool := ((a1.length : Int) != (a2.length : Int)); (bif v3 then (some false) else (laws_eqRowsS_L1 n n a1 a2 (0 : Int))))
/-- loop.example/g00462/laws.eqDb -/
def laws_eqDb : Nat → Y20 → Y10 → Y20 → Y10 → Option Bool
  | 0, _, _, _, _ => none
  | n + 1, a1, a2, a3, a4 => ((laws_eqCat n a1 a3).bind fun r5 => (bif (!r5) then (some false) else ((laws_eqRowsS n a2 a4).bind fun r6 => (bif (!r6) then (some false) else (some true)))))
/-- loop.example/g00462/laws.eqDdl -/
def laws_eqDdl : Nat → Int → ByteArray → Y16 → (List ByteArray) → ByteArray → ByteArray → Int → ByteArray → Y16 → (List ByteArray) → ByteArray → ByteArray → Option Bool
  | 0, _, _, _, _, _, _, _, _, _, _, _, _ => none
  | n + 1, a1, a2, a3, a4, a5, a6, a7, a8, a9, a10, a11, a12 => (bif (a1 != a7) then (some false) else (bif (!(a2.toList == a8.toList)) then (some false) else ((laws_eqColS n a3 a9).bind fun r13 => (bif (!r13) then (some false) else ((laws_eqStringS n a4 a10).bind fun r14 => (bif (!r14) then (some false) else (bif (!(a5.toList == a11.toList)) then (some false) else (bif (!(a6.toList == a12.toList)) then (some false) else (some true)))))))))
/-- loop.example/g00462/laws.eqStmt -/
def laws_eqStmt : Nat → Int → ByteArray → Y3 → Y3 → Int → ByteArray → Y16 → (List ByteArray) → ByteArray → ByteArray → Int → ByteArray → Y3 → Y3 → Int → ByteArray → Y16 → (List ByteArray) → ByteArray → ByteArray → Option Bool
  | 0, _, _, _, _, _, _, _, _, _, _, _, _, _, _, _, _, _, _, _, _ => none
  | n + 1, a1, a2, a3, a4, a5, a6, a7, a8, a9, a10, a11, a12, a13, a14, a15, a16, a17, a18, a19, a20 => (bif (a1 != a11) then (some false) else (bif (!(a2.toList == a12.toList)) then (some false) else ((laws_eqValS n a3 a13).bind fun r21 => (bif (!r21) then (some false) else ((laws_eqRow n a4 a14).bind fun r22 => (bif (!r22) then (some false) else ((laws_eqDdl n a5 a6 a7 a8 a9 a10 a15 a16 a17 a18 a19 a20).bind fun r23 => (bif (!r23) then (some false) else (some true)))))))))
def laws_eqStmtS_L1 (n : Nat) : Nat → Y32 → Y32 → Int → Option Bool
  | 0, _, _, _ => none
  | j + 1, x4, x5, x6 => (bif (decide (x6 < (x4.length : Int))) then (bif (inR x6 x4.length) then (let v7 := (x4.getD x6.toNat (0, (⟨#[]⟩, ([], ([], (0, (⟨#[]⟩, ([], ([], (⟨#[]⟩, ⟨#[]⟩)))))))))); (bif (inR x6 x5.length) then (let v8 := (x5.getD x6.toNat (0, (⟨#[]⟩, ([], ([], (0, (⟨#[]⟩, ([], ([], (⟨#[]⟩, ⟨#[]⟩)))))))))); ((laws_eqStmt n v7.1 v7.2.1 v7.2.2.1 v7.2.2.2.1 v7.2.2.2.2.1 v7.2.2.2.2.2.1 v7.2.2.2.2.2.2.1 v7.2.2.2.2.2.2.2.1 v7.2.2.2.2.2.2.2.2.1 v7.2.2.2.2.2.2.2.2.2 v8.1 v8.2.1 v8.2.2.1 v8.2.2.2.1 v8.2.2.2.2.1 v8.2.2.2.2.2.1 v8.2.2.2.2.2.2.1 v8.2.2.2.2.2.2.2.1 v8.2.2.2.2.2.2.2.2.1 v8.2.2.2.2.2.2.2.2.2).bind fun r9 => (bif (!r9) then (some false) else (laws_eqStmtS_L1 n j x4 x5 (IntKind.wrap .i64 (x6 + 1)))))) else none)) else none) else (some true))
/-- loop.example/g00462/laws.eqStmtS -/
def laws_eqStmtS : Nat → Y33 → Y33 → Option Bool
  | 0, _, _ => none
  | n + 1, a1, a2 => (let v3 : Bool := ((a1.length : Int) != (a2.length : Int)); (bif v3 then (some false) else (laws_eqStmtS_L1 n n a1 a2 (0 : Int))))
def laws_markText_L1 (n : Nat) : Nat → Int → ByteArray → Option ByteArray
  | 0, _, _ => none
  | j + 1, x2, x3 => (bif (decide ((0 : Int) < x2)) then (bif (!decide ((10 : Int) = 0)) then (let v4 : Int := (IntKind.wrap .i64 ((48 : Int) + (Int.tmod x2 (10 : Int)))); (let v5 : ByteArray := (strOfNums ([(IntKind.wrap .u8 v4)] : List Int)); (bif (decide (v5.size + x3.size ≤ 9223372036854775807)) then (bif (!decide ((10 : Int) = 0)) then (let v6 : Int := (IntKind.wrap .i64 (Int.tdiv x2 (10 : Int))); (laws_markText_L1 n j v6 (v5 ++ x3))) else none) else none))) else none) else (bif (decide ((⟨#[109]⟩ : ByteArray).size + x3.size ≤ 9223372036854775807)) then (some ((⟨#[109]⟩ : ByteArray) ++ x3)) else none))
/-- loop.example/g00462/laws.markText -/
def laws_markText : Nat → Int → Option ByteArray
  | 0, _ => none
  | n + 1, a1 => (bif (decide (a1 ≤ 0)) then (some (⟨#[109, 48]⟩ : ByteArray)) else (laws_markText_L1 n n a1 (⟨#[]⟩ : ByteArray)))
def laws_markColS_o_L1 (n : Nat) : Nat → Int → Int → Y15 → Option (Int × (Y16 × Unit))
  | 0, _, _, _ => none
  | j + 1, x3, x4, x5 => (bif (decide (x4 < (x5.length : Int))) then ((laws_markText n x3).bind fun r6 => (bif (inR x4 x5.length) then (let v7 := (x5.set x4.toNat (r6, (x5.getD x4.toNat (⟨#[]⟩, (0, (false, (false, (0, (0, ⟨#[]⟩))))))).2)); (bif (inR x4 v7.length) then (let v8 := (v7.set x4.toNat ((v7.getD x4.toNat (⟨#[]⟩, (0, (false, (false, (0, (0, ⟨#[]⟩))))))).1, ((IntKind.wrap .i64 (x3 + 1)), (v7.getD x4.toNat (⟨#[]⟩, (0, (false, (false, (0, (0, ⟨#[]⟩))))))).2.2))); (let v9 : Int := (IntKind.wrap .i64 ((IntKind.wrap .i64 (x3 + 1)) + 1)); (bif (!decide ((3 : Int) = 0)) then (bif (inR x4 v8.length) then (let v10 := (v8.set x4.toNat ((v8.getD x4.toNat (⟨#[]⟩, (0, (false, (false, (0, (0, ⟨#[]⟩))))))).1, ((v8.getD x4.toNat (⟨#[]⟩, (0, (false, (false, (0, (0, ⟨#[]⟩))))))).2.1, (((Int.tmod v9 (3 : Int)) == 0), (v8.getD x4.toNat (⟨#[]⟩, (0, (false, (false, (0, (0, ⟨#[]⟩))))))).2.2.2)))); (bif (!decide ((3 : Int) = 0)) then (let v11 : Int := (Int.tmod (IntKind.wrap .i64 (v9 + 1)) (3 : Int)); (bif (inR x4 v10.length) then (let v12 := (v10.set x4.toNat ((v10.getD x4.toNat (⟨#[]⟩, (0, (false, (false, (0, (0, ⟨#[]⟩))))))).1, ((v10.getD x4.toNat (⟨#[]⟩, (0, (false, (false, (0, (0, ⟨#[]⟩))))))).2.1, ((v10.getD x4.toNat (⟨#[]⟩, (0, (false, (false, (0, (0, ⟨#[]⟩))))))).2.2.1, ((v11 == 0), (v10.getD x4.toNat (⟨#[]⟩, (0, (false, (false, (0, (0, ⟨#[]⟩))))))).2.2.2.2))))); (let v13 : Int := (IntKind.wrap .i64 ((IntKind.wrap .i64 (v9 + 1)) + 1)); (bif (inR x4 v12.length) then (let v14 := (v12.set x4.toNat ((v12.getD x4.toNat (⟨#[]⟩, (0, (false, (false, (0, (0, ⟨#[]⟩))))))).1, ((v12.getD x4.toNat (⟨#[]⟩, (0, (false, (false, (0, (0, ⟨#[]⟩))))))).2.1, ((v12.getD x4.toNat (⟨#[]⟩, (0, (false, (false, (0, (0, ⟨#[]⟩))))))).2.2.1, ((v12.getD x4.toNat (⟨#[]⟩, (0, (false, (false, (0, (0, ⟨#[]⟩))))))).2.2.2.1, (v13, (v12.getD x4.toNat (⟨#[]⟩, (0, (false, (false, (0, (0, ⟨#[]⟩))))))).2.2.2.2.2)))))); (bif (inR x4 v14.length) then (let v15 := (v14.set x4.toNat ((v14.getD x4.toNat (⟨#[]⟩, (0, (false, (false, (0, (0, ⟨#[]⟩))))))).1, ((v14.getD x4.toNat (⟨#[]⟩, (0, (false, (false, (0, (0, ⟨#[]⟩))))))).2.1, ((v14.getD x4.toNat (⟨#[]⟩, (0, (false, (false, (0, (0, ⟨#[]⟩))))))).2.2.1, ((v14.getD x4.toNat (⟨#[]⟩, (0, (false, (false, (0, (0, ⟨#[]⟩))))))).2.2.2.1, ((v14.getD x4.toNat (⟨#[]⟩, (0, (false, (false, (0, (0, ⟨#[]⟩))))))).2.2.2.2.1, ((IntKind.wrap .i64 (v13 + 1)), (v14.getD x4.toNat (⟨#[]⟩, (0, (false, (false, (0, (0, ⟨#[]⟩))))))).2.2.2.2.2.2))))))); (let v16 : Int := (IntKind.wrap .i64 ((IntKind.wrap .i64 (v13 + 1)) + 1)); ((laws_markText n v16).bind fun r17 => (bif (inR x4 v15.length) then (let v18 := (v15.set x4.toNat ((v15.getD x4.toNat (⟨#[]⟩, (0, (false, (false, (0, (0, ⟨#[]⟩))))))).1, ((v15.getD x4.toNat (⟨#[]⟩, (0, (false, (false, (0, (0, ⟨#[]⟩))))))).2.1, ((v15.getD x4.toNat (⟨#[]⟩, (0, (false, (false, (0, (0, ⟨#[]⟩))))))).2.2.1, ((v15.getD x4.toNat (⟨#[]⟩, (0, (false, (false, (0, (0, ⟨#[]⟩))))))).2.2.2.1, ((v15.getD x4.toNat (⟨#[]⟩, (0, (false, (false, (0, (0, ⟨#[]⟩))))))).2.2.2.2.1, ((v15.getD x4.toNat (⟨#[]⟩, (0, (false, (false, (0, (0, ⟨#[]⟩))))))).2.2.2.2.2.1, r17))))))); (laws_markColS_o_L1 n j (IntKind.wrap .i64 (v16 + 1)) (IntKind.wrap .i64 (x4 + 1)) v18)) else none)))) else none)) else none))) else none)) else none)) else none) else none))) else none)) else none)) else (some (x3, (x5, ()))))
/-- loop.example/g00462/laws.markColS -/
def laws_markColS_o : Nat → Y16 → Int → Option (Int × (Y16 × Unit))
  | 0, _, _ => none
  | n + 1, a1, a2 => (laws_markColS_o_L1 n n a2 (0 : Int) a1)
def laws_markStringS_o_L1 (n : Nat) : Nat → Int → Int → List ByteArray → Option (Int × ((List ByteArray) × Unit))
  | 0, _, _, _ => none
  | j + 1, x3, x4, x5 => (bif (decide (x4 < (x5.length : Int))) then ((laws_markText n x3).bind fun r6 => (bif (inR x4 x5.length) then (laws_markStringS_o_L1 n j (IntKind.wrap .i64 (x3 + 1)) (IntKind.wrap .i64 (x4 + 1)) (x5.set x4.toNat r6)) else none)) else (some (x3, (x5, ()))))
/-- loop.example/g00462/laws.markStringS -/
def laws_markStringS_o : Nat → (List ByteArray) → Int → Option (Int × ((List ByteArray) × Unit))
  | 0, _, _ => none
  | n + 1, a1, a2 => (laws_markStringS_o_L1 n n a2 (0 : Int) a1)
def laws_markTableS_o_L1 (n : Nat) : Nat → Int → Int → Y19 → Option Y24
  | 0, _, _, _ => none
  | j + 1, x3, x4, x5 => (bif (decide (x4 < (x5.length : Int))) then ((laws_markText n x3).bind fun r6 => (bif (inR x4 x5.length) then (let v7 := (x5.set x4.toNat (r6, (x5.getD x4.toNat (⟨#[]⟩, ([], []))).2)); (bif (inR x4 v7.length) then ((laws_markColS_o n (v7.getD x4.toNat (⟨#[]⟩, ([], []))).2.1 (IntKind.wrap .i64 (x3 + 1))).bind fun r8 => (let v9 := (v7.set x4.toNat ((v7.getD x4.toNat (⟨#[]⟩, ([], []))).1, (r8.2.1, (v7.getD x4.toNat (⟨#[]⟩, ([], []))).2.2))); (bif (inR x4 v9.length) then ((laws_markStringS_o n (v9.getD x4.toNat (⟨#[]⟩, ([], []))).2.2 r8.1).bind fun r10 => (let v11 := (v9.set x4.toNat ((v9.getD x4.toNat (⟨#[]⟩, ([], []))).1, ((v9.getD x4.toNat (⟨#[]⟩, ([], []))).2.1, r10.2.1))); (laws_markTableS_o_L1 n j r10.1 (IntKind.wrap .i64 (x4 + 1)) v11))) else none))) else none)) else none)) else (some (x3, (x5, ()))))
/-- loop.example/g00462/laws.markTableS -/
def laws_markTableS_o : Nat → Y20 → Int → Option Y24
  | 0, _, _ => none
  | n + 1, a1, a2 => (laws_markTableS_o_L1 n n a2 (0 : Int) a1)
/-- loop.example/g00462/laws.markCat -/
def laws_markCat_o : Nat → Y20 → Int → Option Y24
  | 0, _, _ => none
  | n + 1, a1, a2 => ((laws_markTableS_o n a1 a2).bind fun r3 => (some (r3.1, (r3.2.1, ()))))
def laws_markValS_o_L1 (n : Nat) : Nat → Int → Int → Y2 → Option (Int × (Y3 × Unit))
  | 0, _, _, _ => none
  | j + 1, x3, x4, x5 => (bif (decide (x4 < (x5.length : Int))) then (bif (inR x4 x5.length) then (let v6 := (x5.set x4.toNat (x3, (x5.getD x4.toNat (0, (0, ⟨#[]⟩))).2)); (bif (inR x4 v6.length) then (let v7 := (v6.set x4.toNat ((v6.getD x4.toNat (0, (0, ⟨#[]⟩))).1, ((IntKind.wrap .i64 (x3 + 1)), (v6.getD x4.toNat (0, (0, ⟨#[]⟩))).2.2))); (let v8 : Int := (IntKind.wrap .i64 ((IntKind.wrap .i64 (x3 + 1)) + 1)); ((laws_markText n v8).bind fun r9 => (bif (inR x4 v7.length) then (let v10 := (v7.set x4.toNat ((v7.getD x4.toNat (0, (0, ⟨#[]⟩))).1, ((v7.getD x4.toNat (0, (0, ⟨#[]⟩))).2.1, r9))); (laws_markValS_o_L1 n j (IntKind.wrap .i64 (v8 + 1)) (IntKind.wrap .i64 (x4 + 1)) v10)) else none)))) else none)) else none) else (some (x3, (x5, ()))))
/-- loop.example/g00462/laws.markValS -/
def laws_markValS_o : Nat → Y3 → Int → Option (Int × (Y3 × Unit))
  | 0, _, _ => none
  | n + 1, a1, a2 => (laws_markValS_o_L1 n n a2 (0 : Int) a1)
def laws_markRowS_o_L1 (n : Nat) : Nat → Int → Int → Y5 → Option (Int × (Y6 × Unit))
  | 0, _, _, _ => none
  | j + 1, x3, x4, x5 => (bif (decide (x4 < (x5.length : Int))) then (bif (inR x4 x5.length) then ((laws_markValS_o n (x5.getD x4.toNat []) x3).bind fun r6 => (laws_markRowS_o_L1 n j r6.1 (IntKind.wrap .i64 (x4 + 1)) (x5.set x4.toNat r6.2.1))) else none) else (some (x3, (x5, ()))))
/-- loop.example/g00462/laws.markRowS -/
def laws_markRowS_o : Nat → Y6 → Int → Option (Int × (Y6 × Unit))
  | 0, _, _ => none
  | n + 1, a1, a2 => (laws_markRowS_o_L1 n n a2 (0 : Int) a1)
def laws_markRowsS_o_L1 (n : Nat) : Nat → Int → Int → Y8 → Option (Int × Y12)
  | 0, _, _, _ => none
  | j + 1, x3, x4, x5 => (bif (decide (x4 < (x5.length : Int))) then (bif (inR x4 x5.length) then ((laws_markRowS_o n (x5.getD x4.toNat []) x3).bind fun r6 => (laws_markRowsS_o_L1 n j r6.1 (IntKind.wrap .i64 (x4 + 1)) (x5.set x4.toNat r6.2.1))) else none) else (some (x3, (x5, ()))))
/-- loop.example/g00462/laws.markRowsS -/
def laws_markRowsS_o : Nat → Y10 → Int → Option (Int × Y12)
  | 0, _, _ => none
  | n + 1, a1, a2 => (laws_markRowsS_o_L1 n n a2 (0 : Int) a1)
/-- loop.example/g00462/laws.markDb -/
def laws_markDb_o_o : Nat → Y20 → Y10 → Int → Option (Int × (Y20 × Y12))
  | 0, _, _, _ => none
  | n + 1, a1, a2, a3 => ((laws_markCat_o n a1 a3).bind fun r4 => ((laws_markRowsS_o n a2 r4.1).bind fun r5 => (some (r5.1, (r4.2.1, (r5.2.1, ()))))))
def laws_markStmtS_o_L1 (n : Nat) : Nat → Int → Int → Y32 → Option (Int × (Y33 × Unit))
  | 0, _, _, _ => none
  | j + 1, x3, x4, x5 => (bif (decide (x4 < (x5.length : Int))) then (bif (inR x4 x5.length) then (let v6 := (x5.set x4.toNat (x3, (x5.getD x4.toNat (0, (⟨#[]⟩, ([], ([], (0, (⟨#[]⟩, ([], ([], (⟨#[]⟩, ⟨#[]⟩)))))))))).2)); ((laws_markText n (IntKind.wrap .i64 (x3 + 1))).bind fun r7 => (bif (inR x4 v6.length) then (let v8 := (v6.set x4.toNat ((v6.getD x4.toNat (0, (⟨#[]⟩, ([], ([], (0, (⟨#[]⟩, ([], ([], (⟨#[]⟩, ⟨#[]⟩)))))))))).1, (r7, (v6.getD x4.toNat (0, (⟨#[]⟩, ([], ([], (0, (⟨#[]⟩, ([], ([], (⟨#[]⟩, ⟨#[]⟩)))))))))).2.2))); (let v9 : Int := (IntKind.wrap .i64 ((IntKind.wrap .i64 (x3 + 1)) + 1)); (bif (inR x4 v8.length) then ((laws_markValS_o n (v8.getD x4.toNat (0, (⟨#[]⟩, ([], ([], (0, (⟨#[]⟩, ([], ([], (⟨#[]⟩, ⟨#[]⟩)))))))))).2.2.1 v9).bind fun r10 => (let v11 := (v8.set x4.toNat ((v8.getD x4.toNat (0, (⟨#[]⟩, ([], ([], (0, (⟨#[]⟩, ([], ([], (⟨#[]⟩, ⟨#[]⟩)))))))))).1, ((v8.getD x4.toNat (0, (⟨#[]⟩, ([], ([], (0, (⟨#[]⟩, ([], ([], (⟨#[]⟩, ⟨#[]⟩)))))))))).2.1, (r10.2.1, (v8.getD x4.toNat (0, (⟨#[]⟩, ([], ([], (0, (⟨#[]⟩, ([], ([], (⟨#[]⟩, ⟨#[]⟩)))))))))).2.2.2)))); (bif (inR x4 v11.length) then ((laws_markValS_o n (v11.getD x4.toNat (0, (⟨#[]⟩, ([], ([], (0, (⟨#[]⟩, ([], ([], (⟨#[]⟩, ⟨#[]⟩)))))))))).2.2.2.1 r10.1).bind fun r12 => (let v13 := (v11.set x4.toNat ((v11.getD x4.toNat (0, (⟨#[]⟩, ([], ([], (0, (⟨#[]⟩, ([], ([], (⟨#[]⟩, ⟨#[]⟩)))))))))).1, ((v11.getD x4.toNat (0, (⟨#[]⟩, ([], ([], (0, (⟨#[]⟩, ([], ([], (⟨#[]⟩, ⟨#[]⟩)))))))))).2.1, ((v11.getD x4.toNat (0, (⟨#[]⟩, ([], ([], (0, (⟨#[]⟩, ([], ([], (⟨#[]⟩, ⟨#[]⟩)))))))))).2.2.1, (r12.2.1, (v11.getD x4.toNat (0, (⟨#[]⟩, ([], ([], (0, (⟨#[]⟩, ([], ([], (⟨#[]⟩, ⟨#[]⟩)))))))))).2.2.2.2))))); (bif (inR x4 v13.length) then (let v14 := (v13.set x4.toNat ((v13.getD x4.toNat (0, (⟨#[]⟩, ([], ([], (0, (⟨#[]⟩, ([], ([], (⟨#[]⟩, ⟨#[]⟩)))))))))).1, ((v13.getD x4.toNat (0, (⟨#[]⟩, ([], ([], (0, (⟨#[]⟩, ([], ([], (⟨#[]⟩, ⟨#[]⟩)))))))))).2.1, ((v13.getD x4.toNat (0, (⟨#[]⟩, ([], ([], (0, (⟨#[]⟩, ([], ([], (⟨#[]⟩, ⟨#[]⟩)))))))))).2.2.1, ((v13.getD x4.toNat (0, (⟨#[]⟩, ([], ([], (0, (⟨#[]⟩, ([], ([], (⟨#[]⟩, ⟨#[]⟩)))))))))).2.2.2.1, (r12.1, (v13.getD x4.toNat (0, (⟨#[]⟩, ([], ([], (0, (⟨#[]⟩, ([], ([], (⟨#[]⟩, ⟨#[]⟩)))))))))).2.2.2.2.2)))))); ((laws_markText n (IntKind.wrap .i64 (r12.1 + 1))).bind fun r15 => (bif (inR x4 v14.length) then (let v16 := (v14.set x4.toNat ((v14.getD x4.toNat (0, (⟨#[]⟩, ([], ([], (0, (⟨#[]⟩, ([], ([], (⟨#[]⟩, ⟨#[]⟩)))))))))).1, ((v14.getD x4.toNat (0, (⟨#[]⟩, ([], ([], (0, (⟨#[]⟩, ([], ([], (⟨#[]⟩, ⟨#[]⟩)))))))))).2.1, ((v14.getD x4.toNat (0, (⟨#[]⟩, ([], ([], (0, (⟨#[]⟩, ([], ([], (⟨#[]⟩, ⟨#[]⟩)))))))))).2.2.1, ((v14.getD x4.toNat (0, (⟨#[]⟩, ([], ([], (0, (⟨#[]⟩, ([], ([], (⟨#[]⟩, ⟨#[]⟩)))))))))).2.2.2.1, ((v14.getD x4.toNat (0, (⟨#[]⟩, ([], ([], (0, (⟨#[]⟩, ([], ([], (⟨#[]⟩, ⟨#[]⟩)))))))))).2.2.2.2.1, (r15, (v14.getD x4.toNat (0, (⟨#[]⟩, ([], ([], (0, (⟨#[]⟩, ([], ([], (⟨#[]⟩, ⟨#[]⟩)))))))))).2.2.2.2.2.2))))))); (let v17 : Int := (IntKind.wrap .i64 ((IntKind.wrap .i64 (r12.1 + 1)) + 1)); (bif (inR x4 v16.length) then ((laws_markColS_o n (v16.getD x4.toNat (0, (⟨#[]⟩, ([], ([], (0, (⟨#[]⟩, ([], ([], (⟨#[]⟩, ⟨#[]⟩)))))))))).2.2.2.2.2.2.1 v17).bind fun r18 => (let v19 := (v16.set x4.toNat ((v16.getD x4.toNat (0, (⟨#[]⟩, ([], ([], (0, (⟨#[]⟩, ([], ([], (⟨#[]⟩, ⟨#[]⟩)))))))))).1, ((v16.getD x4.toNat (0, (⟨#[]⟩, ([], ([], (0, (⟨#[]⟩, ([], ([], (⟨#[]⟩, ⟨#[]⟩)))))))))).2.1, ((v16.getD x4.toNat (0, (⟨#[]⟩, ([], ([], (0, (⟨#[]⟩, ([], ([], (⟨#[]⟩, ⟨#[]⟩)))))))))).2.2.1, ((v16.getD x4.toNat (0, (⟨#[]⟩, ([], ([], (0, (⟨#[]⟩, ([], ([], (⟨#[]⟩, ⟨#[]⟩)))))))))).2.2.2.1, ((v16.getD x4.toNat (0, (⟨#[]⟩, ([], ([], (0, (⟨#[]⟩, ([], ([], (⟨#[]⟩, ⟨#[]⟩)))))))))).2.2.2.2.1, ((v16.getD x4.toNat (0, (⟨#[]⟩, ([], ([], (0, (⟨#[]⟩, ([], ([], (⟨#[]⟩, ⟨#[]⟩)))))))))).2.2.2.2.2.1, (r18.2.1, (v16.getD x4.toNat (0, (⟨#[]⟩, ([], ([], (0, (⟨#[]⟩, ([], ([], (⟨#[]⟩, ⟨#[]⟩)))))))))).2.2.2.2.2.2.2)))))))); (bif (inR x4 v19.length) then ((laws_markStringS_o n (v19.getD x4.toNat (0, (⟨#[]⟩, ([], ([], (0, (⟨#[]⟩, ([], ([], (⟨#[]⟩, ⟨#[]⟩)))))))))).2.2.2.2.2.2.2.1 r18.1).bind fun r20 => (let v21 := (v19.set x4.toNat ((v19.getD x4.toNat (0, (⟨#[]⟩, ([], ([], (0, (⟨#[]⟩, ([], ([], (⟨#[]⟩, ⟨#[]⟩)))))))))).1, ((v19.getD x4.toNat (0, (⟨#[]⟩, ([], ([], (0, (⟨#[]⟩, ([], ([], (⟨#[]⟩, ⟨#[]⟩)))))))))).2.1, ((v19.getD x4.toNat (0, (⟨#[]⟩, ([], ([], (0, (⟨#[]⟩, ([], ([], (⟨#[]⟩, ⟨#[]⟩)))))))))).2.2.1, ((v19.getD x4.toNat (0, (⟨#[]⟩, ([], ([], (0, (⟨#[]⟩, ([], ([], (⟨#[]⟩, ⟨#[]⟩)))))))))).2.2.2.1, ((v19.getD x4.toNat (0, (⟨#[]⟩, ([], ([], (0, (⟨#[]⟩, ([], ([], (⟨#[]⟩, ⟨#[]⟩)))))))))).2.2.2.2.1, ((v19.getD x4.toNat (0, (⟨#[]⟩, ([], ([], (0, (⟨#[]⟩, ([], ([], (⟨#[]⟩, ⟨#[]⟩)))))))))).2.2.2.2.2.1, ((v19.getD x4.toNat (0, (⟨#[]⟩, ([], ([], (0, (⟨#[]⟩, ([], ([], (⟨#[]⟩, ⟨#[]⟩)))))))))).2.2.2.2.2.2.1, (r20.2.1, (v19.getD x4.toNat (0, (⟨#[]⟩, ([], ([], (0, (⟨#[]⟩, ([], ([], (⟨#[]⟩, ⟨#[]⟩)))))))))).2.2.2.2.2.2.2.2))))))))); ((laws_markText n r20.1).bind fun r22 => (bif (inR x4 v21.length) then (let v23 := (v21.set x4.toNat ((v21.getD x4.toNat (0, (⟨#[]⟩, ([], ([], (0, (⟨#[]⟩, ([], ([], (⟨#[]⟩, ⟨#[]⟩)))))))))).1, ((v21.getD x4.toNat (0, (⟨#[]⟩, ([], ([], (0, (⟨#[]⟩, ([], ([], (⟨#[]⟩, ⟨#[]⟩)))))))))).2.1, ((v21.getD x4.toNat (0, (⟨#[]⟩, ([], ([], (0, (⟨#[]⟩, ([], ([], (⟨#[]⟩, ⟨#[]⟩)))))))))).2.2.1, ((v21.getD x4.toNat (0, (⟨#[]⟩, ([], ([], (0, (⟨#[]⟩, ([], ([], (⟨#[]⟩, ⟨#[]⟩)))))))))).2.2.2.1, ((v21.getD x4.toNat (0, (⟨#[]⟩, ([], ([], (0, (⟨#[]⟩, ([], ([], (⟨#[]⟩, ⟨#[]⟩)))))))))).2.2.2.2.1, ((v21.getD x4.toNat (0, (⟨#[]⟩, ([], ([], (0, (⟨#[]⟩, ([], ([], (⟨#[]⟩, ⟨#[]⟩)))))))))).2.2.2.2.2.1, ((v21.getD x4.toNat (0, (⟨#[]⟩, ([], ([], (0, (⟨#[]⟩, ([], ([], (⟨#[]⟩, ⟨#[]⟩)))))))))).2.2.2.2.2.2.1, ((v21.getD x4.toNat (0, (⟨#[]⟩, ([], ([], (0, (⟨#[]⟩, ([], ([], (⟨#[]⟩, ⟨#[]⟩)))))))))).2.2.2.2.2.2.2.1, (r22, (v21.getD x4.toNat (0, (⟨#[]⟩, ([], ([], (0, (⟨#[]⟩, ([], ([], (⟨#[]⟩, ⟨#[]⟩)))))))))).2.2.2.2.2.2.2.2.2)))))))))); ((laws_markText n (IntKind.wrap .i64 (r20.1 + 1))).bind fun r24 => (bif (inR x4 v23.length) then (let v25 := (v23.set x4.toNat ((v23.getD x4.toNat (0, (⟨#[]⟩, ([], ([], (0, (⟨#[]⟩, ([], ([], (⟨#[]⟩, ⟨#[]⟩)))))))))).1, ((v23.getD x4.toNat (0, (⟨#[]⟩, ([], ([], (0, (⟨#[]⟩, ([], ([], (⟨#[]⟩, ⟨#[]⟩)))))))))).2.1, ((v23.getD x4.toNat (0, (⟨#[]⟩, ([], ([], (0, (⟨#[]⟩, ([], ([], (⟨#[]⟩, ⟨#[]⟩)))))))))).2.2.1, ((v23.getD x4.toNat (0, (⟨#[]⟩, ([], ([], (0, (⟨#[]⟩, ([], ([], (⟨#[]⟩, ⟨#[]⟩)))))))))).2.2.2.1, ((v23.getD x4.toNat (0, (⟨#[]⟩, ([], ([], (0, (⟨#[]⟩, ([], ([], (⟨#[]⟩, ⟨#[]⟩)))))))))).2.2.2.2.1, ((v23.getD x4.toNat (0, (⟨#[]⟩, ([], ([], (0, (⟨#[]⟩, ([], ([], (⟨#[]⟩, ⟨#[]⟩)))))))))).2.2.2.2.2.1, ((v23.getD x4.toNat (0, (⟨#[]⟩, ([], ([], (0, (⟨#[]⟩, ([], ([], (⟨#[]⟩, ⟨#[]⟩)))))))))).2.2.2.2.2.2.1, ((v23.getD x4.toNat (0, (⟨#[]⟩, ([], ([], (0, (⟨#[]⟩, ([], ([], (⟨#[]⟩, ⟨#[]⟩)))))))))).2.2.2.2.2.2.2.1, ((v23.getD x4.toNat (0, (⟨#[]⟩, ([], ([], (0, (⟨#[]⟩, ([], ([], (⟨#[]⟩, ⟨#[]⟩)))))))))).2.2.2.2.2.2.2.2.1, r24)))))))))); (let v26 : Int := (IntKind.wrap .i64 ((IntKind.wrap .i64 (r20.1 + 1)) + 1)); (laws_markStmtS_o_L1 n j v26 (IntKind.wrap .i64 (x4 + 1)) v25))) else none))) else none)))) else none))) else none))) else none))) else none))) else none))) else none))) else none))) else none) else (some (x3, (x5, ()))))
/-- loop.example/g00462/laws.markStmtS -/
def laws_markStmtS_o : Nat → Y33 → Int → Option (Int × (Y33 × Unit))
  | 0, _, _ => none
  | n + 1, a1, a2 => (laws_markStmtS_o_L1 n n a2 (0 : Int) a1)
def laws_heldColS_L1 (n : Nat) : Nat → Y15 → Int → Int → Option Int
  | 0, _, _, _ => none
  | j + 1, x3, x4, x5 => (bif (decide (x5 < (x3.length : Int))) then (bif (inR x5 x3.length) then (let v6 := (x3.getD x5.toNat (⟨#[]⟩, (0, (false, (false, (0, (0, ⟨#[]⟩))))))); ((laws_markText n x4).bind fun r7 => (bif (!(v6.1.toList == r7.toList)) then (some (-1 : Int)) else (bif (inR x5 x3.length) then (let v8 := (x3.getD x5.toNat (⟨#[]⟩, (0, (false, (false, (0, (0, ⟨#[]⟩))))))); (let v9 : Bool := (v8.2.1 != (IntKind.wrap .i64 (x4 + 1))); (bif v9 then (some (-1 : Int)) else (let v10 : Int := (IntKind.wrap .i64 ((IntKind.wrap .i64 (x4 + 1)) + 1)); (bif (inR x5 x3.length) then (let v11 := (x3.getD x5.toNat (⟨#[]⟩, (0, (false, (false, (0, (0, ⟨#[]⟩))))))); (bif (!decide ((3 : Int) = 0)) then (let v12 : Bool := (!(v11.2.2.1 == ((Int.tmod v10 (3 : Int)) == 0))); (bif v12 then (some (-1 : Int)) else (bif (inR x5 x3.length) then (let v13 := (x3.getD x5.toNat (⟨#[]⟩, (0, (false, (false, (0, (0, ⟨#[]⟩))))))); (bif (!decide ((3 : Int) = 0)) then (let v14 : Int := (Int.tmod (IntKind.wrap .i64 (v10 + 1)) (3 : Int)); (bif (!(v13.2.2.2.1 == (v14 == 0))) then (some (-1 : Int)) else (let v15 : Int := (IntKind.wrap .i64 ((IntKind.wrap .i64 (v10 + 1)) + 1)); (bif (inR x5 x3.length) then (let v16 := (x3.getD x5.toNat (⟨#[]⟩, (0, (false, (false, (0, (0, ⟨#[]⟩))))))); (bif (v16.2.2.2.2.1 != v15) then (some (-1 : Int)) else (bif (inR x5 x3.length) then (let v17 := (x3.getD x5.toNat (⟨#[]⟩, (0, (false, (false, (0, (0, ⟨#[]⟩))))))); (let v18 : Bool := (v17.2.2.2.2.2.1 != (IntKind.wrap .i64 (v15 + 1))); (bif v18 then (some (-1 : Int)) else (let v19 : Int := (IntKind.wrap .i64 ((IntKind.wrap .i64 (v15 + 1)) + 1)); (bif (inR x5 x3.length) then (let v20 := (x3.getD x5.toNat (⟨#[]⟩, (0, (false, (false, (0, (0, ⟨#[]⟩))))))); ((laws_markText n v19).bind fun r21 => (let v22 : Bool := (!(v20.2.2.2.2.2.2.toList == r21.toList)); (bif v22 then (some (-1 : Int)) else (laws_heldColS_L1 n j x3 (IntKind.wrap .i64 (v19 + 1)) (IntKind.wrap .i64 (x5 + 1))))))) else none))))) else none))) else none)))) else none)) else none))) else none)) else none))))) else none)))) else none) else (some x4))
/-- loop.example/g00462/laws.heldColS -/
def laws_heldColS : Nat → Y16 → Int → Option Int
  | 0, _, _ => none
  | n + 1, a1, a2 => (laws_heldColS_L1 n n a1 a2 (0 : Int))
def laws_heldStringS_L1 (n : Nat) : Nat → List ByteArray → Int → Int → Option Int
  | 0, _, _, _ => none
  | j + 1, x3, x4, x5 => (bif (decide (x5 < (x3.length : Int))) then (bif (inR x5 x3.length) then ((laws_markText n x4).bind fun r6 => (let v7 : Bool := (!((x3.getD x5.toNat ⟨#[]⟩).toList == r6.toList)); (bif v7 then (some (-1 : Int)) else (laws_heldStringS_L1 n j x3 (IntKind.wrap .i64 (x4 + 1)) (IntKind.wrap .i64 (x5 + 1)))))) else none) else (some x4))
/-- loop.example/g00462/laws.heldStringS -/
def laws_heldStringS : Nat → (List ByteArray) → Int → Option Int
  | 0, _, _ => none
  | n + 1, a1, a2 => (laws_heldStringS_L1 n n a1 a2 (0 : Int))
def laws_heldTableS_L1 (n : Nat) : Nat → Y19 → Int → Int → Option Int
  | 0, _, _, _ => none
  | j + 1, x3, x4, x5 => (bif (decide (x5 < (x3.length : Int))) then (bif (inR x5 x3.length) then (let v6 := (x3.getD x5.toNat (⟨#[]⟩, ([], []))); ((laws_markText n x4).bind fun r7 => (bif (!(v6.1.toList == r7.toList)) then (some (-1 : Int)) else (bif (inR x5 x3.length) then (let v8 := (x3.getD x5.toNat (⟨#[]⟩, ([], []))); ((laws_heldColS n v8.2.1 (IntKind.wrap .i64 (x4 + 1))).bind fun r9 => (bif (decide (r9 < 0)) then (some (-1 : Int)) else (bif (inR x5 x3.length) then (let v10 := (x3.getD x5.toNat (⟨#[]⟩, ([], []))); ((laws_heldStringS n v10.2.2 r9).bind fun r11 => (bif (decide (r11 < 0)) then (some (-1 : Int)) else (laws_heldTableS_L1 n j x3 r11 (IntKind.wrap .i64 (x5 + 1)))))) else none)))) else none)))) else none) else (some x4))
/-- loop.example/g00462/laws.heldTableS -/
def laws_heldTableS : Nat → Y20 → Int → Option Int
  | 0, _, _ => none
  | n + 1, a1, a2 => (laws_heldTableS_L1 n n a1 a2 (0 : Int))
/-- loop.example/g00462/laws.heldCat -/
def laws_heldCat : Nat → Y20 → Int → Option Int
  | 0, _, _ => none
  | n + 1, a1, a2 => ((laws_heldTableS n a1 a2).bind fun r3 => (bif (decide (r3 < 0)) then (some (-1 : Int)) else (some r3)))
def laws_heldValS_L1 (n : Nat) : Nat → Y2 → Int → Int → Option Int
  | 0, _, _, _ => none
  | j + 1, x3, x4, x5 => (bif (decide (x5 < (x3.length : Int))) then (bif (inR x5 x3.length) then (let v6 := (x3.getD x5.toNat (0, (0, ⟨#[]⟩))); (bif (v6.1 != x4) then (some (-1 : Int)) else (bif (inR x5 x3.length) then (let v7 := (x3.getD x5.toNat (0, (0, ⟨#[]⟩))); (let v8 : Bool := (v7.2.1 != (IntKind.wrap .i64 (x4 + 1))); (bif v8 then (some (-1 : Int)) else (let v9 : Int := (IntKind.wrap .i64 ((IntKind.wrap .i64 (x4 + 1)) + 1)); (bif (inR x5 x3.length) then (let v10 := (x3.getD x5.toNat (0, (0, ⟨#[]⟩))); ((laws_markText n v9).bind fun r11 => (bif (!(v10.2.2.toList == r11.toList)) then (some (-1 : Int)) else (laws_heldValS_L1 n j x3 (IntKind.wrap .i64 (v9 + 1)) (IntKind.wrap .i64 (x5 + 1)))))) else none))))) else none))) else none) else (some x4))
/-- loop.example/g00462/laws.heldValS -/
def laws_heldValS : Nat → Y3 → Int → Option Int
  | 0, _, _ => none
  | n + 1, a1, a2 => (laws_heldValS_L1 n n a1 a2 (0 : Int))
def laws_heldRowS_L1 (n : Nat) : Nat → Y5 → Int → Int → Option Int
  | 0, _, _, _ => none
  | j + 1, x3, x4, x5 => (bif (decide (x5 < (x3.length : Int))) then (bif (inR x5 x3.length) then (let v6 := (x3.getD x5.toNat []); ((laws_heldValS n v6 x4).bind fun r7 => (bif (decide (r7 < 0)) then (some (-1 : Int)) else (laws_heldRowS_L1 n j x3 r7 (IntKind.wrap .i64 (x5 + 1)))))) else none) else (some x4))
/-- loop.example/g00462/laws.heldRowS -/
def laws_heldRowS : Nat → Y6 → Int → Option Int
  | 0, _, _ => none
  | n + 1, a1, a2 => (laws_heldRowS_L1 n n a1 a2 (0 : Int))
def laws_heldRowsS_L1 (n : Nat) : Nat → Y8 → Int → Int → Option Int
  | 0, _, _, _ => none
  | j + 1, x3, x4, x5 => (bif (decide (x5 < (x3.length : Int))) then (bif (inR x5 x3.length) then (let v6 := (x3.getD x5.toNat []); ((laws_heldRowS n v6 x4).bind fun r7 => (bif (decide (r7 < 0)) then (some (-1 : Int)) else (laws_heldRowsS_L1 n j x3 r7 (IntKind.wrap .i64 (x5 + 1)))))) else none) else (some x4))
/-- loop.example/g00462/laws.heldRowsS -/
def laws_heldRowsS : Nat → Y10 → Int → Option Int
  | 0, _, _ => none
  | n + 1, a1, a2 => (laws_heldRowsS_L1 n n a1 a2 (0 : Int))
/-- loop.example/g00462/laws.heldDb -/
def laws_heldDb : Nat → Y20 → Y10 → Int → Option Int
  | 0, _, _, _ => none
  | n + 1, a1, a2, a3 => ((laws_heldCat n a1 a3).bind fun r4 => (bif (decide (r4 < 0)) then (some (-1 : Int)) else ((laws_heldRowsS n a2 r4).bind fun r5 => (bif (decide (r5 < 0)) then (some (-1 : Int)) else (some r5)))))
/-- loop.example/g00462/laws.FnExactExecAll -/
def laws_FnExactExecAll : Nat → Y20 → Y10 → Y33 → Option Bool
  | 0, _, _, _ => none
  | n + 1, a1, a2, a3 => ((laws_szDb n a1 a2 (1048576 : Int)).bind fun r4 => (bif (decide (r4 < 0)) then (some true) else ((laws_szStmtS n a3 r4).bind fun r5 => (bif (decide (r5 < 0)) then (some true) else ((laws_toDb n a1 a2).bind fun r6 => ((laws_toStmtS n a3).bind fun r7 => ((spec_ExecAll n r6.1 r6.2 r7).bind fun r8 => (let v9 : Y19 := []; let v10 : Y8 := []; ((laws_toDb n a1 a2).bind fun r11 => (let v12 : Y19 := []; let v13 : Y8 := []; ((laws_toStmtS n a3).bind fun r14 => ((impl_ExecAll n r11.1 r11.2 r14).bind fun r15 => (let v16 : Y19 := []; let v17 : Y8 := []; ((laws_eqDb n r15.1.1 r15.1.2 r8.1.1 r8.1.2).bind fun r18 => (bif (!r18) then (some false) else (bif (r15.2.1 != r8.2.1) then (some false) else (bif (r15.2.2.1 != r8.2.2.1) then (some false) else ((laws_toDb n a1 a2).bind fun r19 => ((laws_eqDb n r11.1 r11.2 r19.1 r19.2).bind fun r20 => (bif (!r20) then (some false) else ((laws_toStmtS n a3).bind fun r21 => ((laws_eqStmtS n r14 r21).bind fun r22 => (bif (!r22) then (some false) else ((laws_markDb_o_o n r11.1 r11.2 (1 : Int)).bind fun r23 => ((laws_markStmtS_o n r14 r23.1).bind fun r24 => (bif (decide (r24.1 < 0)) then (some false) else ((laws_eqDb n r15.1.1 r15.1.2 r8.1.1 r8.1.2).bind fun r25 => (bif (!r25) then (some false) else (bif (r15.2.1 != r8.2.1) then (some false) else (bif (r15.2.2.1 != r8.2.2.1) then (some false) else ((laws_markDb_o_o n r15.1.1 r15.1.2 (1 : Int)).bind fun r26 => ((laws_heldDb n r26.2.1 r26.2.2.1 (1 : Int)).bind fun r27 => (bif (decide (r27 < 0)) then (some false) else (bif (r27 != r26.1) then (some false) else ((laws_toDb n a1 a2).bind fun r28 => ((laws_toStmtS n a3).bind fun r29 => ((impl_ExecAll n r28.1 r28.2 r29).bind fun r30 => (let v31 : Y19 := []; let v32 : Y8 := []; ((laws_eqDb n r30.1.1 r30.1.2 r8.1.1 r8.1.2).bind fun r33 => (bif (!r33) then (some false) else (bif (r30.2.1 != r8.2.1) then (some false) else (bif (r30.2.2.1 != r8.2.2.1) then (some false) else ((laws_heldDb n r26.2.1 r26.2.2.1 (1 : Int)).bind fun r34 => (bif (decide (r34 < 0)) then (some false) else (bif (r34 != r26.1) then (some false) else (some true))))))))))))))))))))))))))))))))))))))))))))))
end Go.Proofs.YtklgakikhdompaaGreat.Ev

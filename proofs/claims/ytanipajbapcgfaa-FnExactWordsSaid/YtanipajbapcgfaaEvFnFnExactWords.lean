/- The functions that the law FnExactWords reaches, as typed functions. -/
import Derived.Test.YtanipajbapcgfaaEvCore
set_option linter.all false
namespace Go.Proofs.Ytanipajbapcgfaa.Ev
open Go
def spec_l05Parts_L1 (n : Nat) : Nat → ByteArray → Int → Int → Int → List ByteArray → Option (List ByteArray)
  | 0, _, _, _, _, _ => none
  | j + 1, x3, x4, x5, x6, x7 => (bif (decide (x6 < (x3.size : Int))) then (bif (inR x6 x3.size) then (bif ((bt x3 x6) == x4) then (bif (decide (0 ≤ x5 ∧ x5 ≤ x6 ∧ x6 ≤ (x3.size : Int))) then (let v8 : List ByteArray := ([(x3.extract x5.toNat x6.toNat)] : List ByteArray); (bif (room (x7.length + v8.length) 16) then (spec_l05Parts_L1 n j x3 x4 (IntKind.wrap .i64 (x6 + (1 : Int))) (IntKind.wrap .i64 (x6 + (1 : Int))) (x7 ++ v8)) else none)) else none) else (spec_l05Parts_L1 n j x3 x4 x5 (IntKind.wrap .i64 (x6 + (1 : Int))) x7)) else none) else (bif (decide (0 ≤ x5 ∧ x5 ≤ ((x3.size : Nat) : Int) ∧ ((x3.size : Nat) : Int) ≤ (x3.size : Int))) then (let v9 : ByteArray := (x3.extract x5.toNat ((x3.size : Nat) : Int).toNat); (bif (room (x7.length + ([v9] : List ByteArray).length) 16) then (some (x7 ++ ([v9] : List ByteArray))) else none)) else none))
/-- loop.example/g00462/spec.l05Parts -/
def spec_l05Parts : Nat → ByteArray → Int → Option (List ByteArray)
  | 0, _, _ => none
  | n + 1, a1, a2 => (spec_l05Parts_L1 n n a1 a2 (0 : Int) (0 : Int) ([] : List ByteArray))
/-- loop.example/g00462/spec.Words -/
def spec_Words : Nat → ByteArray → Option (List ByteArray)
  | 0, _ => none
  | n + 1, a1 => ((spec_l05Parts n a1 (32 : Int)).bind fun r2 => (some r2))
def impl_cut_L1 (n : Nat) : Nat → ByteArray → Int → Int → Int → List ByteArray → Option (List ByteArray)
  | 0, _, _, _, _, _ => none
  | j + 1, x3, x4, x5, x6, x7 => (bif (decide (x6 < (x3.size : Int))) then (bif (inR x6 x3.size) then (bif ((bt x3 x6) == x4) then (bif (decide (0 ≤ x5 ∧ x5 ≤ x6 ∧ x6 ≤ (x3.size : Int))) then (let v8 : List ByteArray := ([(x3.extract x5.toNat x6.toNat)] : List ByteArray); (bif (room (x7.length + v8.length) 16) then (impl_cut_L1 n j x3 x4 (IntKind.wrap .i64 (x6 + (1 : Int))) (IntKind.wrap .i64 (x6 + (1 : Int))) (x7 ++ v8)) else none)) else none) else (impl_cut_L1 n j x3 x4 x5 (IntKind.wrap .i64 (x6 + (1 : Int))) x7)) else none) else (bif (decide (0 ≤ x5 ∧ x5 ≤ ((x3.size : Nat) : Int) ∧ ((x3.size : Nat) : Int) ≤ (x3.size : Int))) then (let v9 : ByteArray := (x3.extract x5.toNat ((x3.size : Nat) : Int).toNat); (bif (room (x7.length + ([v9] : List ByteArray).length) 16) then (some (x7 ++ ([v9] : List ByteArray))) else none)) else none))
/-- loop.example/g00462/impl.cut -/
def impl_cut : Nat → ByteArray → Int → Option (List ByteArray)
  | 0, _, _ => none
  | n + 1, a1, a2 => (impl_cut_L1 n n a1 a2 (0 : Int) (0 : Int) ([] : List ByteArray))
/-- loop.example/g00462/impl.Words -/
def impl_Words : Nat → ByteArray → Option (List ByteArray)
  | 0, _ => none
  | n + 1, a1 => ((impl_cut n a1 (32 : Int)).bind fun r2 => (some r2))
def laws_eqStringS_L1 (n : Nat) : Nat → List ByteArray → List ByteArray → Int → Option Bool
  | 0, _, _, _ => none
  | j + 1, x4, x5, x6 => (bif (decide (x6 < (x4.length : Int))) then (bif (inR x6 x4.length) then (bif (inR x6 x5.length) then (let v7 : Bool := (!((x4.getD x6.toNat (⟨#[]⟩ : ByteArray)).toList == (x5.getD x6.toNat (⟨#[]⟩ : ByteArray)).toList)); (bif v7 then (some false) else (laws_eqStringS_L1 n j x4 x5 (IntKind.wrap .i64 (x6 + (1 : Int)))))) else none) else none) else (some true))
/-- loop.example/g00462/laws.eqStringS -/
def laws_eqStringS : Nat → (List ByteArray) → (List ByteArray) → Option Bool
  | 0, _, _ => none
  | n + 1, a1, a2 => (let v3 : Bool := ((a1.length : Int) != (a2.length : Int)); (bif v3 then (some false) else (laws_eqStringS_L1 n n a1 a2 (0 : Int))))
def laws_markText_L1 (n : Nat) : Nat → Int → ByteArray → Option ByteArray
  | 0, _, _ => none
  | j + 1, x2, x3 => (bif (decide ((0 : Int) < x2)) then (bif (!decide ((10 : Int) = 0)) then (let v4 : Int := (IntKind.wrap .i64 ((48 : Int) + (Int.tmod x2 (10 : Int)))); (let v5 : ByteArray := (strOfNums ([(IntKind.wrap .u8 v4)] : List Int)); (bif (decide (v5.size + x3.size ≤ 9223372036854775807)) then (bif (!decide ((10 : Int) = 0)) then (let v6 : Int := (IntKind.wrap .i64 (Int.tdiv x2 (10 : Int))); (laws_markText_L1 n j v6 (v5 ++ x3))) else none) else none))) else none) else (bif (decide ((⟨#[109]⟩ : ByteArray).size + x3.size ≤ 9223372036854775807)) then (some ((⟨#[109]⟩ : ByteArray) ++ x3)) else none))
/-- loop.example/g00462/laws.markText -/
def laws_markText : Nat → Int → Option ByteArray
  | 0, _ => none
  | n + 1, a1 => (bif (decide (a1 ≤ (0 : Int))) then (some (⟨#[109, 48]⟩ : ByteArray)) else (laws_markText_L1 n n a1 (⟨#[]⟩ : ByteArray)))
def laws_markStringS_o_L1 (n : Nat) : Nat → Int → Int → List ByteArray → Option (Int × ((List ByteArray) × Unit))
  | 0, _, _, _ => none
  | j + 1, x3, x4, x5 => (bif (decide (x4 < (x5.length : Int))) then ((laws_markText n x3).bind fun r6 => (bif (inR x4 x5.length) then (laws_markStringS_o_L1 n j (IntKind.wrap .i64 (x3 + (1 : Int))) (IntKind.wrap .i64 (x4 + (1 : Int))) (x5.set x4.toNat r6)) else none)) else (some (x3, (x5, ()))))
/-- loop.example/g00462/laws.markStringS -/
def laws_markStringS_o : Nat → (List ByteArray) → Int → Option (Int × ((List ByteArray) × Unit))
  | 0, _, _ => none
  | n + 1, a1, a2 => (laws_markStringS_o_L1 n n a2 (0 : Int) a1)
def laws_heldStringS_L1 (n : Nat) : Nat → List ByteArray → Int → Int → Option Int
  | 0, _, _, _ => none
  | j + 1, x3, x4, x5 => (bif (decide (x5 < (x3.length : Int))) then (bif (inR x5 x3.length) then ((laws_markText n x4).bind fun r6 => (let v7 : Bool := (!((x3.getD x5.toNat (⟨#[]⟩ : ByteArray)).toList == r6.toList)); (bif v7 then (some (-1 : Int)) else (laws_heldStringS_L1 n j x3 (IntKind.wrap .i64 (x4 + (1 : Int))) (IntKind.wrap .i64 (x5 + (1 : Int))))))) else none) else (some x4))
/-- loop.example/g00462/laws.heldStringS -/
def laws_heldStringS : Nat → (List ByteArray) → Int → Option Int
  | 0, _, _ => none
  | n + 1, a1, a2 => (laws_heldStringS_L1 n n a1 a2 (0 : Int))
/-- loop.example/g00462/laws.FnExactWords -/
def laws_FnExactWords : Nat → ByteArray → Option Bool
  | 0, _ => none
  | n + 1, a1 => (let v2 : Bool := (decide ((1048576 : Int) < (a1.size : Int))); (bif v2 then (some true) else ((spec_Words n a1).bind fun r3 => ((impl_Words n a1).bind fun r4 => ((laws_eqStringS n r4 r3).bind fun r5 => (bif (!r5) then (some false) else ((laws_markStringS_o n r4 (1 : Int)).bind fun r6 => ((laws_heldStringS n r6.2.1 (1 : Int)).bind fun r7 => (bif (decide (r7 < (0 : Int))) then (some false) else (bif (r7 != r6.1) then (some false) else ((impl_Words n a1).bind fun r8 => ((laws_eqStringS n r8 r3).bind fun r9 => (bif (!r9) then (some false) else ((laws_heldStringS n r6.2.1 (1 : Int)).bind fun r10 => (bif (decide (r10 < (0 : Int))) then (some false) else (bif (r10 != r6.1) then (some false) else (some true)))))))))))))))))
end Go.Proofs.Ytanipajbapcgfaa.Ev

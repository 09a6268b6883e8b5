/- The functions that the law FnExactGetNum reaches, as typed functions. -/
import Derived.Test.YtiahfopdamngiaaEvCore
set_option linter.all false
namespace Go.Proofs.Ytiahfopdamngiaa.Ev
open Go
def laws_toByteS_L1 (n : Nat) : Nat → List Int → Int → List Int → Option (List Int)
  | 0, _, _, _ => none
  | j + 1, x3, x4, x5 => (bif (decide (x4 < (x3.length : Int))) then (bif (inR x4 x3.length) then (bif (inR x4 x5.length) then (let v6 : List Int := (x5.set x4.toNat (x3.getD x4.toNat (0 : Int))); (laws_toByteS_L1 n j x3 (IntKind.wrap .i64 (x4 + (1 : Int))) v6)) else none) else none) else (some x5))
/-- loop.example/g00462/laws.toByteS -/
def laws_toByteS : Nat → (List Int) → Option (List Int)
  | 0, _ => none
  | n + 1, a1 => (bif (decide ((a1.length : Int) = (a1.length : Int) ∧ 0 ≤ (a1.length : Int)) && room (a1.length : Int).toNat 1) then (let v2 : List Int := (List.replicate (a1.length : Int).toNat (0 : Int)); (laws_toByteS_L1 n n a1 (0 : Int) v2)) else none)
def spec_GetNum_L1 (n : Nat) : Nat → List Int → Int → Int → Int → Int → Option (Int × (Bool × Unit))
  | 0, _, _, _, _, _ => none
  | j + 1, x5, x6, x7, x8, x9 => (bif (decide (x9 < x7)) then (bif (inR (IntKind.wrap .i64 (x6 + x9)) x5.length) then (let v10 : Int := (x5.getD (IntKind.wrap .i64 (x6 + x9)).toNat (0 : Int)); (let v11 : Int := (IntKind.wrap .i64 ((IntKind.wrap .i64 (x8 * (256 : Int))) + (IntKind.wrap .i64 v10))); (spec_GetNum_L1 n j x5 x6 x7 v11 (IntKind.wrap .i64 (x9 + (1 : Int)))))) else none) else (some (x8, (true, ()))))
/-- loop.example/g00462/spec.GetNum -/
def spec_GetNum : Nat → (List Int) → Int → Int → Option (Int × (Bool × Unit))
  | 0, _, _, _ => none
  | n + 1, a1, a2, a3 => (bif (decide (a3 < (1 : Int))) then (some ((0 : Int), (false, ()))) else (bif (decide ((6 : Int) < a3)) then (some ((0 : Int), (false, ()))) else (bif (decide (a2 < (0 : Int))) then (some ((0 : Int), (false, ()))) else (let v4 : Int := (IntKind.wrap .i64 ((a1.length : Int) - a3)); (bif (decide (v4 < a2)) then (some ((0 : Int), (false, ()))) else (spec_GetNum_L1 n n a1 a2 a3 (0 : Int) (0 : Int)))))))
/-- loop.example/g00462/impl.within -/
def impl_within : Nat → Int → Int → Int → Option Bool
  | 0, _, _, _ => none
  | n + 1, a1, a2, a3 => (bif (decide (a2 ≤ a1)) then (some (decide (a1 ≤ a3))) else (some false))
def impl_GetNum_L1 (n : Nat) : Nat → Int → List Int → Int → Int → Option (Int × (Bool × Unit))
  | 0, _, _, _, _ => none
  | j + 1, x8, x9, x10, x11 => (bif (decide (x11 < x10)) then (bif (inR x11 x9.length) then (bif (decide (0 ≤ (8 : Int))) then (let v12 : Int := (IntKind.wrap .i64 (x8 * 2 ^ min (8 : Int).toNat (IntKind.bits .i64))); (let v13 : Int := (IntKind.wrap .i64 (x9.getD x11.toNat (0 : Int))); (let v14 : Int := (IntKind.wrap .i64 ((BitVec.ofInt (IntKind.bits .i64) v12 ||| BitVec.ofInt (IntKind.bits .i64) v13).toNat : Int)); (impl_GetNum_L1 n j v14 x9 x10 (IntKind.wrap .i64 (x11 + (1 : Int))))))) else none) else none) else (some (x8, (true, ()))))
/-- loop.example/g00462/impl.GetNum -/
def impl_GetNum : Nat → (List Int) → Int → Int → Option (Int × (Bool × Unit))
  | 0, _, _, _ => none
  | n + 1, a1, a2, a3 => ((impl_within n a3 (1 : Int) (6 : Int)).bind fun r4 => (bif (!r4) then (some ((0 : Int), (false, ()))) else ((impl_within n a2 (0 : Int) (a1.length : Int)).bind fun r5 => (bif (!r5) then (some ((0 : Int), (false, ()))) else (let v6 : Int := (IntKind.wrap .i64 ((a1.length : Int) - a2)); (bif (decide (v6 < a3)) then (some ((0 : Int), (false, ()))) else (bif (decide (0 ≤ a2 ∧ a2 ≤ (IntKind.wrap .i64 (a2 + a3)) ∧ (IntKind.wrap .i64 (a2 + a3)) ≤ (a1.length : Int))) then (let v7 : List Int := ((a1.take (IntKind.wrap .i64 (a2 + a3)).toNat).drop a2.toNat); (impl_GetNum_L1 n n (0 : Int) v7 (v7.length : Int) (0 : Int))) else none)))))))
def laws_eqByteS_L1 (n : Nat) : Nat → List Int → List Int → Int → Option Bool
  | 0, _, _, _ => none
  | j + 1, x4, x5, x6 => (bif (decide (x6 < (x4.length : Int))) then (bif (inR x6 x4.length) then (bif (inR x6 x5.length) then (let v7 : Bool := ((x4.getD x6.toNat (0 : Int)) != (x5.getD x6.toNat (0 : Int))); (bif v7 then (some false) else (laws_eqByteS_L1 n j x4 x5 (IntKind.wrap .i64 (x6 + (1 : Int)))))) else none) else none) else (some true))
/-- loop.example/g00462/laws.eqByteS -/
def laws_eqByteS : Nat → (List Int) → (List Int) → Option Bool
  | 0, _, _ => none
  | n + 1, a1, a2 => (let v3 : Bool := ((a1.length : Int) != (a2.length : Int)); (bif v3 then (some false) else (laws_eqByteS_L1 n n a1 a2 (0 : Int))))
/-- loop.example/g00462/laws.FnExactGetNum -/
def laws_FnExactGetNum : Nat → (List Int) → Int → Int → Option Bool
  | 0, _, _, _ => none
  | n + 1, a1, a2, a3 => (let v4 : Bool := (decide ((1048576 : Int) < (a1.length : Int))); (bif v4 then (some true) else ((laws_toByteS n a1).bind fun r5 => ((spec_GetNum n r5 a2 a3).bind fun r6 => ((laws_toByteS n a1).bind fun r7 => ((impl_GetNum n r7 a2 a3).bind fun r8 => (bif (r8.1 != r6.1) then (some false) else (bif (!(r8.2.1 == r6.2.1)) then (some false) else ((laws_toByteS n a1).bind fun r9 => ((laws_eqByteS n r7 r9).bind fun r10 => (bif (!r10) then (some false) else (some true))))))))))))
end Go.Proofs.Ytiahfopdamngiaa.Ev

/- The functions that the law FnExactWordBytes reaches, as typed functions. -/
import Derived.Test.YtanipajbapcgfaaEvCore
set_option linter.all false
namespace Go.Proofs.Ytanipajbapcgfaa.Ev
open Go
def spec_WordOk_L1 (n : Nat) : Nat → ByteArray → Int → Option Bool
  | 0, _, _ => none
  | j + 1, x2, x3 => (bif (decide (x3 < (x2.size : Int))) then (bif (inR x3 x2.size) then (bif (decide ((bt x2 x3) < (97 : Int))) then (some false) else (bif (inR x3 x2.size) then (bif (decide ((122 : Int) < (bt x2 x3))) then (some false) else (spec_WordOk_L1 n j x2 (IntKind.wrap .i64 (x3 + (1 : Int))))) else none)) else none) else (bif (decide ((1 : Int) ≤ (x2.size : Int))) then (some (decide ((x2.size : Int) ≤ (8 : Int)))) else (some false)))
/-- loop.example/g00462/spec.WordOk -/
def spec_WordOk : Nat → ByteArray → Option Bool
  | 0, _ => none
  | n + 1, a1 => (spec_WordOk_L1 n n a1 (0 : Int))
/-- loop.example/g00462/spec.WordBytes -/
def spec_WordBytes : Nat → ByteArray → Option ((List Int) × (Bool × Unit))
  | 0, _ => none
  | n + 1, a1 => (let v2 : Bool := (!(a1.toList == (⟨#[]⟩ : ByteArray).toList)); (bif v2 then ((spec_WordOk n a1).bind fun r3 => (bif (!r3) then (some (([] : List Int), (false, ()))) else (let v4 : List Int := ([(IntKind.wrap .u8 (a1.size : Int))] : List Int); (let v5 : List Int := (a1.data.toList.map fun b => (b.toNat : Int)); (bif (room (v4.length + v5.length) 1) then (some ((v4 ++ v5), (true, ()))) else none))))) else (let v6 : List Int := ([(IntKind.wrap .u8 (a1.size : Int))] : List Int); (let v7 : List Int := (a1.data.toList.map fun b => (b.toNat : Int)); (bif (room (v6.length + v7.length) 1) then (some ((v6 ++ v7), (true, ()))) else none)))))
/-- loop.example/g00462/impl.within -/
def impl_within : Nat → Int → Int → Int → Option Bool
  | 0, _, _, _ => none
  | n + 1, a1, a2, a3 => (bif (decide (a2 ≤ a1)) then (some (decide (a1 ≤ a3))) else (some false))
def impl_WordOk_L1 (n : Nat) : Nat → ByteArray → Int → Option Bool
  | 0, _, _ => none
  | j + 1, x2, x3 => (bif (decide (x3 < (x2.size : Int))) then (bif (inR x3 x2.size) then (bif (decide ((bt x2 x3) < (97 : Int))) then (some false) else (bif (inR x3 x2.size) then (bif (decide ((122 : Int) < (bt x2 x3))) then (some false) else (impl_WordOk_L1 n j x2 (IntKind.wrap .i64 (x3 + (1 : Int))))) else none)) else none) else ((impl_within n (x2.size : Int) (1 : Int) (8 : Int)).bind fun r4 => (some r4)))
/-- loop.example/g00462/impl.WordOk -/
def impl_WordOk : Nat → ByteArray → Option Bool
  | 0, _ => none
  | n + 1, a1 => (impl_WordOk_L1 n n a1 (0 : Int))
def impl_num_o_L1 (n : Nat) : Nat → Int → Int → List Int → Option (List Int)
  | 0, _, _, _ => none
  | j + 1, x4, x5, x6 => (bif (decide ((0 : Int) ≤ x5)) then (bif (decide (0 ≤ (IntKind.wrap .i64 ((8 : Int) * x5)))) then (let v7 : Int := (Int.fdiv x4 (2 ^ min (IntKind.wrap .i64 ((8 : Int) * x5)).toNat (IntKind.bits .i64))); (bif (room (x6.length + ([(IntKind.wrap .u8 v7)] : List Int).length) 1) then (let v8 : List Int := (x6 ++ ([(IntKind.wrap .u8 v7)] : List Int)); (impl_num_o_L1 n j x4 (IntKind.wrap .i64 (x5 - (1 : Int))) v8)) else none)) else none) else (some x6))
/-- loop.example/g00462/impl.num -/
def impl_num_o : Nat → (List Int) → Int → Int → Option (List Int)
  | 0, _, _, _ => none
  | n + 1, a1, a2, a3 => (impl_num_o_L1 n n a2 (IntKind.wrap .i64 (a3 - (1 : Int))) a1)
/-- loop.example/g00462/impl.text -/
def impl_text_o : Nat → (List Int) → ByteArray → Option (List Int)
  | 0, _, _ => none
  | n + 1, a1, a2 => ((impl_num_o n a1 (a2.size : Int) (1 : Int)).bind fun r3 => (bif (room (r3.length + (a2.data.toList.map fun b => (b.toNat : Int)).length) 1) then (let v4 : List Int := (r3 ++ (a2.data.toList.map fun b => (b.toNat : Int))); (some v4)) else none))
/-- loop.example/g00462/impl.WordBytes -/
def impl_WordBytes : Nat → ByteArray → Option ((List Int) × (Bool × Unit))
  | 0, _ => none
  | n + 1, a1 => (let v2 : Bool := (!(a1.toList == (⟨#[]⟩ : ByteArray).toList)); (bif v2 then ((impl_WordOk n a1).bind fun r3 => (bif (!r3) then (some (([] : List Int), (false, ()))) else ((impl_text_o n ([] : List Int) a1).bind fun r4 => (some (r4, (true, ())))))) else ((impl_text_o n ([] : List Int) a1).bind fun r5 => (some (r5, (true, ()))))))
def laws_eqByteS_L1 (n : Nat) : Nat → List Int → List Int → Int → Option Bool
  | 0, _, _, _ => none
  | j + 1, x4, x5, x6 => (bif (decide (x6 < (x4.length : Int))) then (bif (inR x6 x4.length) then (bif (inR x6 x5.length) then (let v7 : Bool := ((x4.getD x6.toNat (0 : Int)) != (x5.getD x6.toNat (0 : Int))); (bif v7 then (some false) else (laws_eqByteS_L1 n j x4 x5 (IntKind.wrap .i64 (x6 + (1 : Int)))))) else none) else none) else (some true))
/-- loop.example/g00462/laws.eqByteS -/
def laws_eqByteS : Nat → (List Int) → (List Int) → Option Bool
  | 0, _, _ => none
  | n + 1, a1, a2 => (let v3 : Bool := ((a1.length : Int) != (a2.length : Int)); (bif v3 then (some false) else (laws_eqByteS_L1 n n a1 a2 (0 : Int))))
def laws_markByteS_o_L1 (n : Nat) : Nat → Int → Int → List Int → Option (Int × ((List Int) × Unit))
  | 0, _, _, _ => none
  | j + 1, x3, x4, x5 => (bif (decide (x4 < (x5.length : Int))) then (bif (inR x4 x5.length) then (laws_markByteS_o_L1 n j (IntKind.wrap .i64 (x3 + (1 : Int))) (IntKind.wrap .i64 (x4 + (1 : Int))) (x5.set x4.toNat (IntKind.wrap .u8 x3))) else none) else (some (x3, (x5, ()))))
/-- loop.example/g00462/laws.markByteS -/
def laws_markByteS_o : Nat → (List Int) → Int → Option (Int × ((List Int) × Unit))
  | 0, _, _ => none
  | n + 1, a1, a2 => (laws_markByteS_o_L1 n n a2 (0 : Int) a1)
def laws_heldByteS_L1 (n : Nat) : Nat → List Int → Int → Int → Option Int
  | 0, _, _, _ => none
  | j + 1, x3, x4, x5 => (bif (decide (x5 < (x3.length : Int))) then (bif (inR x5 x3.length) then (let v6 : Bool := ((x3.getD x5.toNat (0 : Int)) != (IntKind.wrap .u8 x4)); (bif v6 then (some (-1 : Int)) else (laws_heldByteS_L1 n j x3 (IntKind.wrap .i64 (x4 + (1 : Int))) (IntKind.wrap .i64 (x5 + (1 : Int)))))) else none) else (some x4))
/-- loop.example/g00462/laws.heldByteS -/
def laws_heldByteS : Nat → (List Int) → Int → Option Int
  | 0, _, _ => none
  | n + 1, a1, a2 => (laws_heldByteS_L1 n n a1 a2 (0 : Int))
/-- loop.example/g00462/laws.FnExactWordBytes -/
def laws_FnExactWordBytes : Nat → ByteArray → Option Bool
  | 0, _ => none
  | n + 1, a1 => (let v2 : Bool := (decide ((1048576 : Int) < (a1.size : Int))); (bif v2 then (some true) else ((spec_WordBytes n a1).bind fun r3 => ((impl_WordBytes n a1).bind fun r4 => ((laws_eqByteS n r4.1 r3.1).bind fun r5 => (bif (!r5) then (some false) else (bif (!(r4.2.1 == r3.2.1)) then (some false) else ((laws_markByteS_o n r4.1 (1 : Int)).bind fun r6 => ((laws_heldByteS n r6.2.1 (1 : Int)).bind fun r7 => (bif (decide (r7 < (0 : Int))) then (some false) else (bif (r7 != r6.1) then (some false) else ((impl_WordBytes n a1).bind fun r8 => ((laws_eqByteS n r8.1 r3.1).bind fun r9 => (bif (!r9) then (some false) else (bif (!(r8.2.1 == r3.2.1)) then (some false) else ((laws_heldByteS n r6.2.1 (1 : Int)).bind fun r10 => (bif (decide (r10 < (0 : Int))) then (some false) else (bif (r10 != r6.1) then (some false) else (some true)))))))))))))))))))
end Go.Proofs.Ytanipajbapcgfaa.Ev

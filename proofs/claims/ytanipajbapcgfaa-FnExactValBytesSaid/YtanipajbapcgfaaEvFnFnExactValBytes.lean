/- The functions that the law FnExactValBytes reaches, as typed functions. -/
import Derived.Test.YtanipajbapcgfaaEvCore
set_option linter.all false
namespace Go.Proofs.Ytanipajbapcgfaa.Ev
open Go
/-- loop.example/g00462/laws.szVal -/
def laws_szVal : Nat → Int → Int → ByteArray → Int → Option Int
  | 0, _, _, _, _ => none
  | n + 1, a1, a2, a3, a4 => (let v5 : Int := (IntKind.wrap .i64 (a4 - (a3.size : Int))); (bif (decide (v5 < (0 : Int))) then (some (-1 : Int)) else (some v5)))
/-- loop.example/g00462/laws.toVal -/
def laws_toVal : Nat → Int → Int → ByteArray → Option (Int × (Int × ByteArray))
  | 0, _, _, _ => none
  | n + 1, a1, a2, a3 => (some (a1, (a2, a3)))
/-- loop.example/g00462/spec.l01Num -/
def spec_l01Num : Nat → Int → Option Bool
  | 0, _ => none
  | n + 1, a1 => (bif (decide ((-1099511627775 : Int) ≤ a1)) then (some (decide (a1 ≤ (1099511627775 : Int)))) else (some false))
/-- loop.example/g00462/spec.ValOk -/
def spec_ValOk : Nat → Int → Int → ByteArray → Option Bool
  | 0, _, _, _ => none
  | n + 1, a1, a2, a3 => (bif (a1 == (0 : Int)) then (bif (a2 == (0 : Int)) then (let v4 : Bool := (a3.toList == (⟨#[]⟩ : ByteArray).toList); (some v4)) else (some false)) else (bif (a1 == (1 : Int)) then (bif (a2 == (0 : Int)) then (let v5 : Bool := (a3.toList == (⟨#[]⟩ : ByteArray).toList); (some v5)) else (bif (a2 == (1 : Int)) then (let v6 : Bool := (a3.toList == (⟨#[]⟩ : ByteArray).toList); (some v6)) else (some false))) else (bif (a1 == (2 : Int)) then ((spec_l01Num n a2).bind fun r7 => (bif r7 then (let v8 : Bool := (a3.toList == (⟨#[]⟩ : ByteArray).toList); (some v8)) else (some false))) else (bif (a1 == (3 : Int)) then (bif (a2 == (0 : Int)) then (some (decide ((a3.size : Int) ≤ (30 : Int)))) else (some false)) else (some false)))))
def spec_l06Pow_L1 (n : Nat) : Nat → Int → Int → Int → Option Int
  | 0, _, _, _ => none
  | j + 1, x2, x3, x4 => (bif (decide (x4 < x2)) then (spec_l06Pow_L1 n j x2 (IntKind.wrap .i64 (x3 * (256 : Int))) (IntKind.wrap .i64 (x4 + (1 : Int)))) else (some x3))
/-- loop.example/g00462/spec.l06Pow -/
def spec_l06Pow : Nat → Int → Option Int
  | 0, _ => none
  | n + 1, a1 => (spec_l06Pow_L1 n n a1 (1 : Int) (0 : Int))
def spec_PutNum_L1 (n : Nat) : Nat → Int → Int → List Int → Option ((List Int) × (Bool × Unit))
  | 0, _, _, _ => none
  | j + 1, x5, x6, x7 => (bif (decide ((0 : Int) ≤ x6)) then ((spec_l06Pow n x6).bind fun r8 => (bif (!decide (r8 = 0)) then (bif (!decide ((256 : Int) = 0)) then (let v9 : Int := (Int.tmod (IntKind.wrap .i64 (Int.tdiv x5 r8)) (256 : Int)); (bif (room (x7.length + ([(IntKind.wrap .u8 v9)] : List Int).length) 1) then (let v10 : List Int := (x7 ++ ([(IntKind.wrap .u8 v9)] : List Int)); (spec_PutNum_L1 n j x5 (IntKind.wrap .i64 (x6 - (1 : Int))) v10)) else none)) else none) else none)) else (some (x7, (true, ()))))
/-- loop.example/g00462/spec.PutNum -/
def spec_PutNum : Nat → (List Int) → Int → Int → Option ((List Int) × (Bool × Unit))
  | 0, _, _, _ => none
  | n + 1, a1, a2, a3 => (bif (decide (a3 < (1 : Int))) then (some (([] : List Int), (false, ()))) else (bif (decide ((6 : Int) < a3)) then (some (([] : List Int), (false, ()))) else (bif (decide (a2 < (0 : Int))) then (some (([] : List Int), (false, ()))) else ((spec_l06Pow n a3).bind fun r4 => (bif (decide (r4 ≤ a2)) then (some (([] : List Int), (false, ()))) else (bif (room (([] : List Int).length + a1.length) 1) then (spec_PutNum_L1 n n a2 (IntKind.wrap .i64 (a3 - (1 : Int))) (([] : List Int) ++ a1)) else none))))))
/-- loop.example/g00462/spec.ValBytes -/
def spec_ValBytes : Nat → Int → Int → ByteArray → Option ((List Int) × (Bool × Unit))
  | 0, _, _, _ => none
  | n + 1, a1, a2, a3 => ((spec_ValOk n a1 a2 a3).bind fun r4 => (bif (!r4) then (some (([] : List Int), (false, ()))) else (bif (a1 == (1 : Int)) then (bif (room (([(IntKind.wrap .u8 a1)] : List Int).length + ([(IntKind.wrap .u8 a2)] : List Int).length) 1) then (let v5 : List Int := (([(IntKind.wrap .u8 a1)] : List Int) ++ ([(IntKind.wrap .u8 a2)] : List Int)); (some (v5, (true, ())))) else none) else (bif (a1 == (2 : Int)) then (bif (decide (a2 < (0 : Int))) then (bif (room (([(IntKind.wrap .u8 a1)] : List Int).length + ([(1 : Int)] : List Int).length) 1) then (let v6 : List Int := (([(IntKind.wrap .u8 a1)] : List Int) ++ ([(1 : Int)] : List Int)); ((spec_PutNum n v6 (IntKind.wrap .i64 (0 - a2)) (6 : Int)).bind fun r7 => (some (r7.1, (r7.2.1, ()))))) else none) else (bif (room (([(IntKind.wrap .u8 a1)] : List Int).length + ([(0 : Int)] : List Int).length) 1) then (let v8 : List Int := (([(IntKind.wrap .u8 a1)] : List Int) ++ ([(0 : Int)] : List Int)); ((spec_PutNum n v8 a2 (6 : Int)).bind fun r9 => (some (r9.1, (r9.2.1, ()))))) else none)) else (bif (a1 == (3 : Int)) then (let v10 : List Int := ([(IntKind.wrap .u8 (a3.size : Int))] : List Int); (bif (room (([(IntKind.wrap .u8 a1)] : List Int).length + v10.length) 1) then (let v11 : List Int := (([(IntKind.wrap .u8 a1)] : List Int) ++ v10); (let v12 : List Int := (a3.data.toList.map fun b => (b.toNat : Int)); (bif (room (v11.length + v12.length) 1) then (some ((v11 ++ v12), (true, ()))) else none))) else none)) else (some (([(IntKind.wrap .u8 a1)] : List Int), (true, ()))))))))
/-- loop.example/g00462/impl.within -/
def impl_within : Nat → Int → Int → Int → Option Bool
  | 0, _, _, _ => none
  | n + 1, a1, a2, a3 => (bif (decide (a2 ≤ a1)) then (some (decide (a1 ≤ a3))) else (some false))
/-- loop.example/g00462/impl.ValOk -/
def impl_ValOk : Nat → Int → Int → ByteArray → Option Bool
  | 0, _, _, _ => none
  | n + 1, a1, a2, a3 => (bif (a1 == (0 : Int)) then (let v4 : Bool := ((a1 == (0 : Int)) && ((a2 == (0 : Int)) && ((a3.toList == (⟨#[]⟩ : ByteArray).toList) && true))); (some v4)) else (bif (a1 == (1 : Int)) then ((impl_within n a2 (0 : Int) (1 : Int)).bind fun r5 => (bif r5 then (let v6 : Bool := (a3.toList == (⟨#[]⟩ : ByteArray).toList); (some v6)) else (some false))) else (bif (a1 == (2 : Int)) then ((impl_within n a2 (-1099511627775 : Int) (1099511627775 : Int)).bind fun r7 => (bif r7 then (let v8 : Bool := (a3.toList == (⟨#[]⟩ : ByteArray).toList); (some v8)) else (some false))) else (bif (a1 == (3 : Int)) then (bif (a2 == (0 : Int)) then (some (decide ((a3.size : Int) ≤ (30 : Int)))) else (some false)) else (some false)))))
def impl_num_o_L1 (n : Nat) : Nat → Int → Int → List Int → Option (List Int)
  | 0, _, _, _ => none
  | j + 1, x4, x5, x6 => (bif (decide ((0 : Int) ≤ x5)) then (bif (decide (0 ≤ (IntKind.wrap .i64 ((8 : Int) * x5)))) then (let v7 : Int := (Int.fdiv x4 (2 ^ min (IntKind.wrap .i64 ((8 : Int) * x5)).toNat (IntKind.bits .i64))); (bif (room (x6.length + ([(IntKind.wrap .u8 v7)] : List Int).length) 1) then (let v8 : List Int := (x6 ++ ([(IntKind.wrap .u8 v7)] : List Int)); (impl_num_o_L1 n j x4 (IntKind.wrap .i64 (x5 - (1 : Int))) v8)) else none)) else none) else (some x6))
/-- loop.example/g00462/impl.num -/
def impl_num_o : Nat → (List Int) → Int → Int → Option (List Int)
  | 0, _, _, _ => none
  | n + 1, a1, a2, a3 => (impl_num_o_L1 n n a2 (IntKind.wrap .i64 (a3 - (1 : Int))) a1)
/-- loop.example/g00462/impl.flag -/
def impl_flag_o : Nat → (List Int) → Bool → Option (List Int)
  | 0, _, _ => none
  | n + 1, a1, a2 => (bif a2 then (bif (room (a1.length + ([(1 : Int)] : List Int).length) 1) then (some (a1 ++ ([(1 : Int)] : List Int))) else none) else (bif (room (a1.length + ([(0 : Int)] : List Int).length) 1) then (some (a1 ++ ([(0 : Int)] : List Int))) else none))
/-- loop.example/g00462/impl.text -/
def impl_text_o : Nat → (List Int) → ByteArray → Option (List Int)
  | 0, _, _ => none
  | n + 1, a1, a2 => ((impl_num_o n a1 (a2.size : Int) (1 : Int)).bind fun r3 => (bif (room (r3.length + (a2.data.toList.map fun b => (b.toNat : Int)).length) 1) then (let v4 : List Int := (r3 ++ (a2.data.toList.map fun b => (b.toNat : Int))); (some v4)) else none))
/-- loop.example/g00462/impl.val -/
def impl_val_o : Nat → (List Int) → Int → Int → ByteArray → Option (List Int)
  | 0, _, _, _, _ => none
  | n + 1, a1, a2, a3, a4 => ((impl_num_o n a1 a2 (1 : Int)).bind fun r5 => (bif (a2 == (1 : Int)) then ((impl_num_o n r5 a3 (1 : Int)).bind fun r6 => (some r6)) else (bif (a2 == (2 : Int)) then ((impl_flag_o n r5 (decide (a3 < (0 : Int)))).bind fun r7 => (let v8 : Int := (bif decide (a3 < (IntKind.wrap .i64 (0 - a3))) then (IntKind.wrap .i64 (0 - a3)) else a3); ((impl_num_o n r7 v8 (6 : Int)).bind fun r9 => (some r9)))) else (bif (a2 == (3 : Int)) then ((impl_text_o n r5 a4).bind fun r10 => (some r10)) else (some r5)))))
/-- loop.example/g00462/impl.ValBytes -/
def impl_ValBytes : Nat → Int → Int → ByteArray → Option ((List Int) × (Bool × Unit))
  | 0, _, _, _ => none
  | n + 1, a1, a2, a3 => ((impl_ValOk n a1 a2 a3).bind fun r4 => (bif (!r4) then (some (([] : List Int), (false, ()))) else ((impl_val_o n ([] : List Int) a1 a2 a3).bind fun r5 => (some (r5, (true, ()))))))
def laws_eqByteS_L1 (n : Nat) : Nat → List Int → List Int → Int → Option Bool
  | 0, _, _, _ => none
  | j + 1, x4, x5, x6 => (bif (decide (x6 < (x4.length : Int))) then (bif (inR x6 x4.length) then (bif (inR x6 x5.length) then (let v7 : Bool := ((x4.getD x6.toNat (0 : Int)) != (x5.getD x6.toNat (0 : Int))); (bif v7 then (some false) else (laws_eqByteS_L1 n j x4 x5 (IntKind.wrap .i64 (x6 + (1 : Int)))))) else none) else none) else (some true))
/-- loop.example/g00462/laws.eqByteS -/
def laws_eqByteS : Nat → (List Int) → (List Int) → Option Bool
  | 0, _, _ => none
  | n + 1, a1, a2 => (let v3 : Bool := ((a1.length : Int) != (a2.length : Int)); (bif v3 then (some false) else (laws_eqByteS_L1 n n a1 a2 (0 : Int))))
def laws_markByteS_o_L1 (n : Nat) : Nat → Int → Int → List Int → Option (Int × ((List Int) × Unit))
  | 0, _, _, _ => none
  | j + 1, x3, x4, x5 => (bif (decide (x4 < (x5.length : Int))) then (bif (inR x4 x5.length) then (laws_markByteS_o_L1 n j (IntKind.wrap .i64 (x3 + (1 : Int))) (IntKind.wrap .i64 (x4 + (1 : Int))) (x5.set x4.toNat (IntKind.wrap .u8 x3))) else none) else (some (x3, (x5, ()))))
/-- loop.example/g00462/laws.markByteS -/
def laws_markByteS_o : Nat → (List Int) → Int → Option (Int × ((List Int) × Unit))
  | 0, _, _ => none
  | n + 1, a1, a2 => (laws_markByteS_o_L1 n n a2 (0 : Int) a1)
def laws_heldByteS_L1 (n : Nat) : Nat → List Int → Int → Int → Option Int
  | 0, _, _, _ => none
  | j + 1, x3, x4, x5 => (bif (decide (x5 < (x3.length : Int))) then (bif (inR x5 x3.length) then (let v6 : Bool := ((x3.getD x5.toNat (0 : Int)) != (IntKind.wrap .u8 x4)); (bif v6 then (some (-1 : Int)) else (laws_heldByteS_L1 n j x3 (IntKind.wrap .i64 (x4 + (1 : Int))) (IntKind.wrap .i64 (x5 + (1 : Int)))))) else none) else (some x4))
/-- loop.example/g00462/laws.heldByteS -/
def laws_heldByteS : Nat → (List Int) → Int → Option Int
  | 0, _, _ => none
  | n + 1, a1, a2 => (laws_heldByteS_L1 n n a1 a2 (0 : Int))
/-- loop.example/g00462/laws.FnExactValBytes -/
def laws_FnExactValBytes : Nat → Int → Int → ByteArray → Option Bool
  | 0, _, _, _ => none
  | n + 1, a1, a2, a3 => ((laws_szVal n a1 a2 a3 (1048576 : Int)).bind fun r4 => (bif (decide (r4 < (0 : Int))) then (some true) else ((laws_toVal n a1 a2 a3).bind fun r5 => ((spec_ValBytes n r5.1 r5.2.1 r5.2.2).bind fun r6 => ((laws_toVal n a1 a2 a3).bind fun r7 => ((impl_ValBytes n r7.1 r7.2.1 r7.2.2).bind fun r8 => ((laws_eqByteS n r8.1 r6.1).bind fun r9 => (bif (!r9) then (some false) else (bif (!(r8.2.1 == r6.2.1)) then (some false) else ((laws_markByteS_o n r8.1 (1 : Int)).bind fun r10 => ((laws_heldByteS n r10.2.1 (1 : Int)).bind fun r11 => (bif (decide (r11 < (0 : Int))) then (some false) else (bif (r11 != r10.1) then (some false) else ((laws_toVal n a1 a2 a3).bind fun r12 => ((impl_ValBytes n r12.1 r12.2.1 r12.2.2).bind fun r13 => ((laws_eqByteS n r13.1 r6.1).bind fun r14 => (bif (!r14) then (some false) else (bif (!(r13.2.1 == r6.2.1)) then (some false) else ((laws_heldByteS n r10.2.1 (1 : Int)).bind fun r15 => (bif (decide (r15 < (0 : Int))) then (some false) else (bif (r15 != r10.1) then (some false) else (some true))))))))))))))))))))))
end Go.Proofs.Ytanipajbapcgfaa.Ev

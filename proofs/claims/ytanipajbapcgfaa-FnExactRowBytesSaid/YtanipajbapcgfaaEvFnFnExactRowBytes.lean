/- The functions that the law FnExactRowBytes reaches, as typed functions. -/
import Derived.Test.YtanipajbapcgfaaEvCore
set_option linter.all false
namespace Go.Proofs.Ytanipajbapcgfaa.Ev
open Go
/-- loop.example/g00462/laws.szVal -/
def laws_szVal : Nat → Int → Int → ByteArray → Int → Option Int
  | 0, _, _, _, _ => none
  | n + 1, a1, a2, a3, a4 => (let v5 : Int := (IntKind.wrap .i64 (a4 - (a3.size : Int))); (bif (decide (v5 < (0 : Int))) then (some (-1 : Int)) else (some v5)))
def laws_szValS_L1 (n : Nat) : Nat → List (Int × (Int × ByteArray)) → Int → Int → Option Int
  | 0, _, _, _ => none
  | j + 1, x4, x5, x6 => (bif (decide (x6 < (x4.length : Int))) then (bif (inR x6 x4.length) then (let v7 : (Int × (Int × ByteArray)) := (x4.getD x6.toNat ((0 : Int), ((0 : Int), (⟨#[]⟩ : ByteArray)))); ((laws_szVal n v7.1 v7.2.1 v7.2.2 x5).bind fun r8 => (bif (decide (r8 < (0 : Int))) then (some (-1 : Int)) else (laws_szValS_L1 n j x4 r8 (IntKind.wrap .i64 (x6 + (1 : Int))))))) else none) else (some x5))
/-- loop.example/g00462/laws.szValS -/
def laws_szValS : Nat → (List (Int × (Int × ByteArray))) → Int → Option Int
  | 0, _, _ => none
  | n + 1, a1, a2 => (let v3 : Int := (IntKind.wrap .i64 (a2 - (a1.length : Int))); (bif (decide (v3 < (0 : Int))) then (some (-1 : Int)) else (laws_szValS_L1 n n a1 v3 (0 : Int))))
/-- loop.example/g00462/laws.toVal -/
def laws_toVal : Nat → Int → Int → ByteArray → Option (Int × (Int × ByteArray))
  | 0, _, _, _ => none
  | n + 1, a1, a2, a3 => (some (a1, (a2, a3)))
def laws_toValS_L1 (n : Nat) : Nat → List (Int × (Int × ByteArray)) → Int → List (Int × (Int × ByteArray)) → Option (List (Int × (Int × ByteArray)))
  | 0, _, _, _ => none
  | j + 1, x3, x4, x5 => (bif (decide (x4 < (x3.length : Int))) then (bif (inR x4 x3.length) then (let v6 : (Int × (Int × ByteArray)) := (x3.getD x4.toNat ((0 : Int), ((0 : Int), (⟨#[]⟩ : ByteArray)))); ((laws_toVal n v6.1 v6.2.1 v6.2.2).bind fun r7 => (bif (inR x4 x5.length) then (let v8 : List (Int × (Int × ByteArray)) := (x5.set x4.toNat (r7.1, (r7.2.1, r7.2.2))); (laws_toValS_L1 n j x3 (IntKind.wrap .i64 (x4 + (1 : Int))) v8)) else none))) else none) else (some x5))
/-- loop.example/g00462/laws.toValS -/
def laws_toValS : Nat → (List (Int × (Int × ByteArray))) → Option (List (Int × (Int × ByteArray)))
  | 0, _ => none
  | n + 1, a1 => (bif (decide ((a1.length : Int) = (a1.length : Int) ∧ 0 ≤ (a1.length : Int)) && room (a1.length : Int).toNat 32) then (let v2 : List (Int × (Int × ByteArray)) := (List.replicate (a1.length : Int).toNat ((0 : Int), ((0 : Int), (⟨#[]⟩ : ByteArray)))); (laws_toValS_L1 n n a1 (0 : Int) v2)) else none)
/-- loop.example/g00462/spec.l01Num -/
def spec_l01Num : Nat → Int → Option Bool
  | 0, _ => none
  | n + 1, a1 => (bif (decide ((-1099511627775 : Int) ≤ a1)) then (some (decide (a1 ≤ (1099511627775 : Int)))) else (some false))
/-- loop.example/g00462/spec.ValOk -/
def spec_ValOk : Nat → Int → Int → ByteArray → Option Bool
  | 0, _, _, _ => none
  | n + 1, a1, a2, a3 => (bif (a1 == (0 : Int)) then (bif (a2 == (0 : Int)) then (let v4 : Bool := (a3.toList == (⟨#[]⟩ : ByteArray).toList); (some v4)) else (some false)) else (bif (a1 == (1 : Int)) then (bif (a2 == (0 : Int)) then (let v5 : Bool := (a3.toList == (⟨#[]⟩ : ByteArray).toList); (some v5)) else (bif (a2 == (1 : Int)) then (let v6 : Bool := (a3.toList == (⟨#[]⟩ : ByteArray).toList); (some v6)) else (some false))) else (bif (a1 == (2 : Int)) then ((spec_l01Num n a2).bind fun r7 => (bif r7 then (let v8 : Bool := (a3.toList == (⟨#[]⟩ : ByteArray).toList); (some v8)) else (some false))) else (bif (a1 == (3 : Int)) then (bif (a2 == (0 : Int)) then (some (decide ((a3.size : Int) ≤ (30 : Int)))) else (some false)) else (some false)))))
def spec_l06Pow_L1 (n : Nat) : Nat → Int → Int → Int → Option Int
  | 0, _, _, _ => none
  | j + 1, x2, x3, x4 => (bif (decide (x4 < x2)) then (spec_l06Pow_L1 n j x2 (IntKind.wrap .i64 (x3 * (256 : Int))) (IntKind.wrap .i64 (x4 + (1 : Int)))) else (some x3))
/-- loop.example/g00462/spec.l06Pow -/
def spec_l06Pow : Nat → Int → Option Int
  | 0, _ => none
  | n + 1, a1 => (spec_l06Pow_L1 n n a1 (1 : Int) (0 : Int))
def spec_PutNum_L1 (n : Nat) : Nat → Int → Int → List Int → Option ((List Int) × (Bool × Unit))
  | 0, _, _, _ => none
  | j + 1, x5, x6, x7 => (bif (decide ((0 : Int) ≤ x6)) then ((spec_l06Pow n x6).bind fun r8 => (bif (!decide (r8 = 0)) then (bif (!decide ((256 : Int) = 0)) then (let v9 : Int := (Int.tmod (IntKind.wrap .i64 (Int.tdiv x5 r8)) (256 : Int)); (bif (room (x7.length + ([(IntKind.wrap .u8 v9)] : List Int).length) 1) then (let v10 : List Int := (x7 ++ ([(IntKind.wrap .u8 v9)] : List Int)); (spec_PutNum_L1 n j x5 (IntKind.wrap .i64 (x6 - (1 : Int))) v10)) else none)) else none) else none)) else (some (x7, (true, ()))))
/-- loop.example/g00462/spec.PutNum -/
def spec_PutNum : Nat → (List Int) → Int → Int → Option ((List Int) × (Bool × Unit))
  | 0, _, _, _ => none
  | n + 1, a1, a2, a3 => (bif (decide (a3 < (1 : Int))) then (some (([] : List Int), (false, ()))) else (bif (decide ((6 : Int) < a3)) then (some (([] : List Int), (false, ()))) else (bif (decide (a2 < (0 : Int))) then (some (([] : List Int), (false, ()))) else ((spec_l06Pow n a3).bind fun r4 => (bif (decide (r4 ≤ a2)) then (some (([] : List Int), (false, ()))) else (bif (room (([] : List Int).length + a1.length) 1) then (spec_PutNum_L1 n n a2 (IntKind.wrap .i64 (a3 - (1 : Int))) (([] : List Int) ++ a1)) else none))))))
/-- loop.example/g00462/spec.ValBytes -/
def spec_ValBytes : Nat → Int → Int → ByteArray → Option ((List Int) × (Bool × Unit))
  | 0, _, _, _ => none
  | n + 1, a1, a2, a3 => ((spec_ValOk n a1 a2 a3).bind fun r4 => (bif (!r4) then (some (([] : List Int), (false, ()))) else (bif (a1 == (1 : Int)) then (bif (room (([(IntKind.wrap .u8 a1)] : List Int).length + ([(IntKind.wrap .u8 a2)] : List Int).length) 1) then (let v5 : List Int := (([(IntKind.wrap .u8 a1)] : List Int) ++ ([(IntKind.wrap .u8 a2)] : List Int)); (some (v5, (true, ())))) else none) else (bif (a1 == (2 : Int)) then (bif (decide (a2 < (0 : Int))) then (bif (room (([(IntKind.wrap .u8 a1)] : List Int).length + ([(1 : Int)] : List Int).length) 1) then (let v6 : List Int := (([(IntKind.wrap .u8 a1)] : List Int) ++ ([(1 : Int)] : List Int)); ((spec_PutNum n v6 (IntKind.wrap .i64 (0 - a2)) (6 : Int)).bind fun r7 => (some (r7.1, (r7.2.1, ()))))) else none) else (bif (room (([(IntKind.wrap .u8 a1)] : List Int).length + ([(0 : Int)] : List Int).length) 1) then (let v8 : List Int := (([(IntKind.wrap .u8 a1)] : List Int) ++ ([(0 : Int)] : List Int)); ((spec_PutNum n v8 a2 (6 : Int)).bind fun r9 => (some (r9.1, (r9.2.1, ()))))) else none)) else (bif (a1 == (3 : Int)) then (let v10 : List Int := ([(IntKind.wrap .u8 (a3.size : Int))] : List Int); (bif (room (([(IntKind.wrap .u8 a1)] : List Int).length + v10.length) 1) then (let v11 : List Int := (([(IntKind.wrap .u8 a1)] : List Int) ++ v10); (let v12 : List Int := (a3.data.toList.map fun b => (b.toNat : Int)); (bif (room (v11.length + v12.length) 1) then (some ((v11 ++ v12), (true, ()))) else none))) else none)) else (some (([(IntKind.wrap .u8 a1)] : List Int), (true, ()))))))))
def spec_RowBytes_L1 (n : Nat) : Nat → List (Int × (Int × ByteArray)) → Int → Int → List Int → Option ((List Int) × (Bool × Unit))
  | 0, _, _, _, _ => none
  | j + 1, x4, x5, x6, x7 => (bif (decide (x6 < x5)) then (bif (inR x6 x4.length) then (let v8 : (Int × (Int × ByteArray)) := (x4.getD x6.toNat ((0 : Int), ((0 : Int), (⟨#[]⟩ : ByteArray)))); ((spec_ValBytes n v8.1 v8.2.1 v8.2.2).bind fun r9 => (bif (!r9.2.1) then (some (([] : List Int), (false, ()))) else (bif (room (x7.length + r9.1.length) 1) then (spec_RowBytes_L1 n j x4 x5 (IntKind.wrap .i64 (x6 + (1 : Int))) (x7 ++ r9.1)) else none)))) else none) else (some (x7, (true, ()))))
/-- loop.example/g00462/spec.RowBytes -/
def spec_RowBytes : Nat → (List (Int × (Int × ByteArray))) → Option ((List Int) × (Bool × Unit))
  | 0, _ => none
  | n + 1, a1 => (let v2 : Bool := (decide ((8 : Int) < (a1.length : Int))); (bif v2 then (some (([] : List Int), (false, ()))) else (let v3 : List Int := ([(IntKind.wrap .u8 (a1.length : Int))] : List Int); (spec_RowBytes_L1 n n a1 (a1.length : Int) (0 : Int) v3))))
/-- loop.example/g00462/impl.within -/
def impl_within : Nat → Int → Int → Int → Option Bool
  | 0, _, _, _ => none
  | n + 1, a1, a2, a3 => (bif (decide (a2 ≤ a1)) then (some (decide (a1 ≤ a3))) else (some false))
/-- loop.example/g00462/impl.ValOk -/
def impl_ValOk : Nat → Int → Int → ByteArray → Option Bool
  | 0, _, _, _ => none
  | n + 1, a1, a2, a3 => (bif (a1 == (0 : Int)) then (let v4 : Bool := ((a1 == (0 : Int)) && ((a2 == (0 : Int)) && ((a3.toList == (⟨#[]⟩ : ByteArray).toList) && true))); (some v4)) else (bif (a1 == (1 : Int)) then ((impl_within n a2 (0 : Int) (1 : Int)).bind fun r5 => (bif r5 then (let v6 : Bool := (a3.toList == (⟨#[]⟩ : ByteArray).toList); (some v6)) else (some false))) else (bif (a1 == (2 : Int)) then ((impl_within n a2 (-1099511627775 : Int) (1099511627775 : Int)).bind fun r7 => (bif r7 then (let v8 : Bool := (a3.toList == (⟨#[]⟩ : ByteArray).toList); (some v8)) else (some false))) else (bif (a1 == (3 : Int)) then (bif (a2 == (0 : Int)) then (some (decide ((a3.size : Int) ≤ (30 : Int)))) else (some false)) else (some false)))))
def impl_num_o_L1 (n : Nat) : Nat → Int → Int → List Int → Option (List Int)
  | 0, _, _, _ => none
  | j + 1, x4, x5, x6 => (bif (decide ((0 : Int) ≤ x5)) then (bif (decide (0 ≤ (IntKind.wrap .i64 ((8 : Int) * x5)))) then (let v7 : Int := (Int.fdiv x4 (2 ^ min (IntKind.wrap .i64 ((8 : Int) * x5)).toNat (IntKind.bits .i64))); (bif (room (x6.length + ([(IntKind.wrap .u8 v7)] : List Int).length) 1) then (let v8 : List Int := (x6 ++ ([(IntKind.wrap .u8 v7)] : List Int)); (impl_num_o_L1 n j x4 (IntKind.wrap .i64 (x5 - (1 : Int))) v8)) else none)) else none) else (some x6))
/-- loop.example/g00462/impl.num -/
def impl_num_o : Nat → (List Int) → Int → Int → Option (List Int)
  | 0, _, _, _ => none
  | n + 1, a1, a2, a3 => (impl_num_o_L1 n n a2 (IntKind.wrap .i64 (a3 - (1 : Int))) a1)
/-- loop.example/g00462/impl.flag -/
def impl_flag_o : Nat → (List Int) → Bool → Option (List Int)
  | 0, _, _ => none
  | n + 1, a1, a2 => (bif a2 then (bif (room (a1.length + ([(1 : Int)] : List Int).length) 1) then (some (a1 ++ ([(1 : Int)] : List Int))) else none) else (bif (room (a1.length + ([(0 : Int)] : List Int).length) 1) then (some (a1 ++ ([(0 : Int)] : List Int))) else none))
/-- loop.example/g00462/impl.text -/
def impl_text_o : Nat → (List Int) → ByteArray → Option (List Int)
  | 0, _, _ => none
  | n + 1, a1, a2 => ((impl_num_o n a1 (a2.size : Int) (1 : Int)).bind fun r3 => (bif (room (r3.length + (a2.data.toList.map fun b => (b.toNat : Int)).length) 1) then (let v4 : List Int := (r3 ++ (a2.data.toList.map fun b => (b.toNat : Int))); (some v4)) else none))
/-- loop.example/g00462/impl.val -/
def impl_val_o : Nat → (List Int) → Int → Int → ByteArray → Option (List Int)
  | 0, _, _, _, _ => none
  | n + 1, a1, a2, a3, a4 => ((impl_num_o n a1 a2 (1 : Int)).bind fun r5 => (bif (a2 == (1 : Int)) then ((impl_num_o n r5 a3 (1 : Int)).bind fun r6 => (some r6)) else (bif (a2 == (2 : Int)) then ((impl_flag_o n r5 (decide (a3 < (0 : Int)))).bind fun r7 => (let v8 : Int := (bif decide (a3 < (IntKind.wrap .i64 (0 - a3))) then (IntKind.wrap .i64 (0 - a3)) else a3); ((impl_num_o n r7 v8 (6 : Int)).bind fun r9 => (some r9)))) else (bif (a2 == (3 : Int)) then ((impl_text_o n r5 a4).bind fun r10 => (some r10)) else (some r5)))))
def impl_vals_o_L1 (n : Nat) : Nat → List (Int × (Int × ByteArray)) → Int → Int → List Int → Option (List Int)
  | 0, _, _, _, _ => none
  | j + 1, x4, x5, x6, x7 => (bif (decide (x6 < x5)) then (bif (inR x6 x4.length) then (let v8 : (Int × (Int × ByteArray)) := (x4.getD x6.toNat ((0 : Int), ((0 : Int), (⟨#[]⟩ : ByteArray)))); ((impl_val_o n x7 v8.1 v8.2.1 v8.2.2).bind fun r9 => (impl_vals_o_L1 n j x4 x5 (IntKind.wrap .i64 (x6 + (1 : Int))) r9))) else none) else (some x7))
/-- loop.example/g00462/impl.vals -/
def impl_vals_o : Nat → (List Int) → (List (Int × (Int × ByteArray))) → Option (List Int)
  | 0, _, _ => none
  | n + 1, a1, a2 => ((impl_num_o n a1 (a2.length : Int) (1 : Int)).bind fun r3 => (impl_vals_o_L1 n n a2 (a2.length : Int) (0 : Int) r3))
def impl_RowBytes_L1 (n : Nat) : Nat → List (Int × (Int × ByteArray)) → List (Int × (Int × ByteArray)) → Int → Int → Option ((List Int) × (Bool × Unit))
  | 0, _, _, _, _ => none
  | j + 1, x2, x3, x4, x5 => (bif (decide (x5 < x4)) then (bif (inR x5 x3.length) then (let v6 : (Int × (Int × ByteArray)) := (x3.getD x5.toNat ((0 : Int), ((0 : Int), (⟨#[]⟩ : ByteArray)))); ((impl_ValOk n v6.1 v6.2.1 v6.2.2).bind fun r7 => (bif (!r7) then (some (([] : List Int), (false, ()))) else (impl_RowBytes_L1 n j x2 x3 x4 (IntKind.wrap .i64 (x5 + (1 : Int))))))) else none) else (let v8 : Bool := (decide ((8 : Int) < (x2.length : Int))); (bif v8 then (some (([] : List Int), (false, ()))) else ((impl_vals_o n ([] : List Int) x2).bind fun r9 => (some (r9, (true, ())))))))
/-- loop.example/g00462/impl.RowBytes -/
def impl_RowBytes : Nat → (List (Int × (Int × ByteArray))) → Option ((List Int) × (Bool × Unit))
  | 0, _ => none
  | n + 1, a1 => (impl_RowBytes_L1 n n a1 a1 (a1.length : Int) (0 : Int))
def laws_eqByteS_L1 (n : Nat) : Nat → List Int → List Int → Int → Option Bool
  | 0, _, _, _ => none
  | j + 1, x4, x5, x6 => (bif (decide (x6 < (x4.length : Int))) then (bif (inR x6 x4.length) then (bif (inR x6 x5.length) then (let v7 : Bool := ((x4.getD x6.toNat (0 : Int)) != (x5.getD x6.toNat (0 : Int))); (bif v7 then (some false) else (laws_eqByteS_L1 n j x4 x5 (IntKind.wrap .i64 (x6 + (1 : Int)))))) else none) else none) else (some true))
/-- loop.example/g00462/laws.eqByteS -/
def laws_eqByteS : Nat → (List Int) → (List Int) → Option Bool
  | 0, _, _ => none
  | n + 1, a1, a2 => (let v3 : Bool := ((a1.length : Int) != (a2.length : Int)); (bif v3 then (some false) else (laws_eqByteS_L1 n n a1 a2 (0 : Int))))
/-- loop.example/g00462/laws.eqVal -/
def laws_eqVal : Nat → Int → Int → ByteArray → Int → Int → ByteArray → Option Bool
  | 0, _, _, _, _, _, _ => none
  | n + 1, a1, a2, a3, a4, a5, a6 => (bif (a1 != a4) then (some false) else (bif (a2 != a5) then (some false) else (bif (!(a3.toList == a6.toList)) then (some false) else (some true))))
def laws_eqValS_L1 (n : Nat) : Nat → List (Int × (Int × ByteArray)) → List (Int × (Int × ByteArray)) → Int → Option Bool
  | 0, _, _, _ => none
  | j + 1, x4, x5, x6 => (bif (decide (x6 < (x4.length : Int))) then (bif (inR x6 x4.length) then (let v7 : (Int × (Int × ByteArray)) := (x4.getD x6.toNat ((0 : Int), ((0 : Int), (⟨#[]⟩ : ByteArray)))); (bif (inR x6 x5.length) then (let v8 : (Int × (Int × ByteArray)) := (x5.getD x6.toNat ((0 : Int), ((0 : Int), (⟨#[]⟩ : ByteArray)))); ((laws_eqVal n v7.1 v7.2.1 v7.2.2 v8.1 v8.2.1 v8.2.2).bind fun r9 => (bif (!r9) then (some false) else (laws_eqValS_L1 n j x4 x5 (IntKind.wrap .i64 (x6 + (1 : Int))))))) else none)) else none) else (some true))
/-- loop.example/g00462/laws.eqValS -/
def laws_eqValS : Nat → (List (Int × (Int × ByteArray))) → (List (Int × (Int × ByteArray))) → Option Bool
  | 0, _, _ => none
  | n + 1, a1, a2 => (let v3 : Bool := ((a1.length : Int) != (a2.length : Int)); (bif v3 then (some false) else (laws_eqValS_L1 n n a1 a2 (0 : Int))))
def laws_markText_L1 (n : Nat) : Nat → Int → ByteArray → Option ByteArray
  | 0, _, _ => none
  | j + 1, x2, x3 => (bif (decide ((0 : Int) < x2)) then (bif (!decide ((10 : Int) = 0)) then (let v4 : Int := (IntKind.wrap .i64 ((48 : Int) + (Int.tmod x2 (10 : Int)))); (let v5 : ByteArray := (strOfNums ([(IntKind.wrap .u8 v4)] : List Int)); (bif (decide (v5.size + x3.size ≤ 9223372036854775807)) then (bif (!decide ((10 : Int) = 0)) then (let v6 : Int := (IntKind.wrap .i64 (Int.tdiv x2 (10 : Int))); (laws_markText_L1 n j v6 (v5 ++ x3))) else none) else none))) else none) else (bif (decide ((⟨#[109]⟩ : ByteArray).size + x3.size ≤ 9223372036854775807)) then (some ((⟨#[109]⟩ : ByteArray) ++ x3)) else none))
/-- loop.example/g00462/laws.markText -/
def laws_markText : Nat → Int → Option ByteArray
  | 0, _ => none
  | n + 1, a1 => (bif (decide (a1 ≤ (0 : Int))) then (some (⟨#[109, 48]⟩ : ByteArray)) else (laws_markText_L1 n n a1 (⟨#[]⟩ : ByteArray)))
def laws_markValS_o_L1 (n : Nat) : Nat → Int → Int → List (Int × (Int × ByteArray)) → Option (Int × ((List (Int × (Int × ByteArray))) × Unit))
  | 0, _, _, _ => none
  | j + 1, x3, x4, x5 => (bif (decide (x4 < (x5.length : Int))) then (bif (inR x4 x5.length) then (let v6 : List (Int × (Int × ByteArray)) := (x5.set x4.toNat (x3, (x5.getD x4.toNat ((0 : Int), ((0 : Int), (⟨#[]⟩ : ByteArray)))).2)); (bif (inR x4 v6.length) then (let v7 : List (Int × (Int × ByteArray)) := (v6.set x4.toNat ((v6.getD x4.toNat ((0 : Int), ((0 : Int), (⟨#[]⟩ : ByteArray)))).1, ((IntKind.wrap .i64 (x3 + (1 : Int))), (v6.getD x4.toNat ((0 : Int), ((0 : Int), (⟨#[]⟩ : ByteArray)))).2.2))); (let v8 : Int := (IntKind.wrap .i64 ((IntKind.wrap .i64 (x3 + (1 : Int))) + (1 : Int))); ((laws_markText n v8).bind fun r9 => (bif (inR x4 v7.length) then (let v10 : List (Int × (Int × ByteArray)) := (v7.set x4.toNat ((v7.getD x4.toNat ((0 : Int), ((0 : Int), (⟨#[]⟩ : ByteArray)))).1, ((v7.getD x4.toNat ((0 : Int), ((0 : Int), (⟨#[]⟩ : ByteArray)))).2.1, r9))); (laws_markValS_o_L1 n j (IntKind.wrap .i64 (v8 + (1 : Int))) (IntKind.wrap .i64 (x4 + (1 : Int))) v10)) else none)))) else none)) else none) else (some (x3, (x5, ()))))
/-- loop.example/g00462/laws.markValS -/
def laws_markValS_o : Nat → (List (Int × (Int × ByteArray))) → Int → Option (Int × ((List (Int × (Int × ByteArray))) × Unit))
  | 0, _, _ => none
  | n + 1, a1, a2 => (laws_markValS_o_L1 n n a2 (0 : Int) a1)
def laws_markByteS_o_L1 (n : Nat) : Nat → Int → Int → List Int → Option (Int × ((List Int) × Unit))
  | 0, _, _, _ => none
  | j + 1, x3, x4, x5 => (bif (decide (x4 < (x5.length : Int))) then (bif (inR x4 x5.length) then (laws_markByteS_o_L1 n j (IntKind.wrap .i64 (x3 + (1 : Int))) (IntKind.wrap .i64 (x4 + (1 : Int))) (x5.set x4.toNat (IntKind.wrap .u8 x3))) else none) else (some (x3, (x5, ()))))
/-- loop.example/g00462/laws.markByteS -/
def laws_markByteS_o : Nat → (List Int) → Int → Option (Int × ((List Int) × Unit))
  | 0, _, _ => none
  | n + 1, a1, a2 => (laws_markByteS_o_L1 n n a2 (0 : Int) a1)
def laws_heldByteS_L1 (n : Nat) : Nat → List Int → Int → Int → Option Int
  | 0, _, _, _ => none
  | j + 1, x3, x4, x5 => (bif (decide (x5 < (x3.length : Int))) then (bif (inR x5 x3.length) then (let v6 : Bool := ((x3.getD x5.toNat (0 : Int)) != (IntKind.wrap .u8 x4)); (bif v6 then (some (-1 : Int)) else (laws_heldByteS_L1 n j x3 (IntKind.wrap .i64 (x4 + (1 : Int))) (IntKind.wrap .i64 (x5 + (1 : Int)))))) else none) else (some x4))
/-- loop.example/g00462/laws.heldByteS -/
def laws_heldByteS : Nat → (List Int) → Int → Option Int
  | 0, _, _ => none
  | n + 1, a1, a2 => (laws_heldByteS_L1 n n a1 a2 (0 : Int))
/-- loop.example/g00462/laws.FnExactRowBytes -/
def laws_FnExactRowBytes : Nat → (List (Int × (Int × ByteArray))) → Option Bool
  | 0, _ => none
  | n + 1, a1 => ((laws_szValS n a1 (1048576 : Int)).bind fun r2 => (bif (decide (r2 < (0 : Int))) then (some true) else ((laws_toValS n a1).bind fun r3 => ((spec_RowBytes n r3).bind fun r4 => ((laws_toValS n a1).bind fun r5 => ((impl_RowBytes n r5).bind fun r6 => ((laws_eqByteS n r6.1 r4.1).bind fun r7 => (bif (!r7) then (some false) else (bif (!(r6.2.1 == r4.2.1)) then (some false) else ((laws_toValS n a1).bind fun r8 => ((laws_eqValS n r5 r8).bind fun r9 => (bif (!r9) then (some false) else ((laws_markValS_o n r5 (1 : Int)).bind fun r10 => (bif (decide (r10.1 < (0 : Int))) then (some false) else ((laws_eqByteS n r6.1 r4.1).bind fun r11 => (bif (!r11) then (some false) else (bif (!(r6.2.1 == r4.2.1)) then (some false) else ((laws_markByteS_o n r6.1 (1 : Int)).bind fun r12 => ((laws_heldByteS n r12.2.1 (1 : Int)).bind fun r13 => (bif (decide (r13 < (0 : Int))) then (some false) else (bif (r13 != r12.1) then (some false) else ((laws_toValS n a1).bind fun r14 => ((impl_RowBytes n r14).bind fun r15 => ((laws_eqByteS n r15.1 r4.1).bind fun r16 => (bif (!r16) then (some false) else (bif (!(r15.2.1 == r4.2.1)) then (some false) else ((laws_heldByteS n r12.2.1 (1 : Int)).bind fun r17 => (bif (decide (r17 < (0 : Int))) then (some false) else (bif (r17 != r12.1) then (some false) else (some true))))))))))))))))))))))))))))))
end Go.Proofs.Ytanipajbapcgfaa.Ev

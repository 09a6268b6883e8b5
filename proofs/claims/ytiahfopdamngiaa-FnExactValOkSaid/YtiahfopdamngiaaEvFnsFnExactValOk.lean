/- The functions that the law FnExactValOk reaches, as the evaluator tells them. -/
import Derived.Test.YtiahfopdamngiaaEvShape
import Derived.Test.YtiahfopdamngiaaEvEq
import Derived.Test.YtiahfopdamngiaaChecked
set_option linter.all false
namespace Go.Proofs.Ytiahfopdamngiaa.Ev
open Go Go.Proofs
set_option linter.unusedVariables false
def bytesOf (f : Kd) : Nat := 0
noncomputable def env : Env := ⟨[(3, ⟨1, 0, false, [], (.int .i64)⟩),
  (4, ⟨1, 0, false, [], .bool⟩),
  (9, ⟨1, 0, false, [], .str⟩),
  (35, ⟨3, 0, true, [(0, 1), (1, 1), (2, 1)], (.pair (.int .i64) (.pair (.int .i64) .str))⟩),
  (38, ⟨3, 0, true, [(0, 1), (1, 1), (2, 1)], (.pair (.int .i64) (.pair (.int .i64) .str))⟩)],
  [(8, Try.f8), (25, Try.f25), (26, Try.f26), (27, Try.f27), (28, Try.f28), (48, Try.f48), (49, Try.f49)], [], [], [38]⟩
theorem envOk : EnvOk Try.prog env := envOk_of (by kernel_rfl) (by
  simp only [env, List.forall_mem_cons, List.not_mem_nil, false_implies, implies_true, and_true]
  exact ⟨⟨Try.func8, by kernel_rfl⟩, ⟨Try.func25, by kernel_rfl⟩, ⟨Try.func26, by kernel_rfl⟩, ⟨Try.func27, by kernel_rfl⟩, ⟨Try.func28, by kernel_rfl⟩, ⟨Try.func48, by kernel_rfl⟩, ⟨Try.func49, by kernel_rfl⟩⟩) (by kernel_rfl)
theorem eqsOk : EqsOk Try.prog env := eqsOk_of (by kernel_rfl)
/-- loop.example/g00462/laws.szVal -/
def g25 : Nat → Int → Int → ByteArray → Int → Option Int
  | 0, _, _, _, _ => none
  | n + 1, a1, a2, a3, a4 => (let v5 : Int := (IntKind.wrap .i64 (a4 - (a3.size : Int))); (bif (decide (v5 < (0 : Int))) then (some (-1 : Int)) else (some v5)))
def F25 : Fn' ((Int × (Int × ByteArray)) × (Int × Unit)) Int := ⟨25, (Tvs.cons (Tv.agg (Ls.cons (Lf.int .i64) (Ls.cons (Lf.int .i64) (Ls.one Lf.str)))) (Tvs.cons (Tv.one (Lf.int .i64)) Tvs.nil)), (Rt.v (Tv.one (Lf.int .i64))), fun n a => g25 n a.1.1 a.1.2.1 a.1.2.2 a.2.1⟩
/-- loop.example/g00462/laws.toVal -/
def g27 : Nat → Int → Int → ByteArray → Option (Int × (Int × ByteArray))
  | 0, _, _, _ => none
  | n + 1, a1, a2, a3 => (some (a1, (a2, a3)))
def F27 : Fn' ((Int × (Int × ByteArray)) × Unit) (Int × (Int × ByteArray)) := ⟨27, (Tvs.cons (Tv.agg (Ls.cons (Lf.int .i64) (Ls.cons (Lf.int .i64) (Ls.one Lf.str)))) Tvs.nil), (Rt.v (Tv.agg (Ls.cons (Lf.int .i64) (Ls.cons (Lf.int .i64) (Ls.one Lf.str))))), fun n a => g27 n a.1.1 a.1.2.1 a.1.2.2⟩
/-- loop.example/g00462/spec.l01Num -/
def g49 : Nat → Int → Option Bool
  | 0, _ => none
  | n + 1, a1 => (bif (decide ((-1099511627775 : Int) ≤ a1)) then (some (decide (a1 ≤ (1099511627775 : Int)))) else (some false))
def F49 : Fn' (Int × Unit) Bool := ⟨49, (Tvs.cons (Tv.one (Lf.int .i64)) Tvs.nil), (Rt.v (Tv.one Lf.bool)), fun n a => g49 n a.1⟩
/-- loop.example/g00462/spec.ValOk -/
def g26 : Nat → Int → Int → ByteArray → Option Bool
  | 0, _, _, _ => none
  | n + 1, a1, a2, a3 => (bif (a1 == (0 : Int)) then (bif (a2 == (0 : Int)) then (let v4 : Bool := (a3.toList == (⟨#[]⟩ : ByteArray).toList); (some v4)) else (some false)) else (bif (a1 == (1 : Int)) then (bif (a2 == (0 : Int)) then (let v5 : Bool := (a3.toList == (⟨#[]⟩ : ByteArray).toList); (some v5)) else (bif (a2 == (1 : Int)) then (let v6 : Bool := (a3.toList == (⟨#[]⟩ : ByteArray).toList); (some v6)) else (some false))) else (bif (a1 == (2 : Int)) then ((g49 n a2).bind fun r7 => (bif r7 then (let v8 : Bool := (a3.toList == (⟨#[]⟩ : ByteArray).toList); (some v8)) else (some false))) else (bif (a1 == (3 : Int)) then (bif (a2 == (0 : Int)) then (some (decide ((a3.size : Int) ≤ (30 : Int)))) else (some false)) else (some false)))))
def F26 : Fn' ((Int × (Int × ByteArray)) × Unit) Bool := ⟨26, (Tvs.cons (Tv.agg (Ls.cons (Lf.int .i64) (Ls.cons (Lf.int .i64) (Ls.one Lf.str)))) Tvs.nil), (Rt.v (Tv.one Lf.bool)), fun n a => g26 n a.1.1 a.1.2.1 a.1.2.2⟩
/-- loop.example/g00462/impl.within -/
def g48 : Nat → Int → Int → Int → Option Bool
  | 0, _, _, _ => none
  | n + 1, a1, a2, a3 => (bif (decide (a2 ≤ a1)) then (some (decide (a1 ≤ a3))) else (some false))
def F48 : Fn' (Int × (Int × (Int × Unit))) Bool := ⟨48, (Tvs.cons (Tv.one (Lf.int .i64)) (Tvs.cons (Tv.one (Lf.int .i64)) (Tvs.cons (Tv.one (Lf.int .i64)) Tvs.nil))), (Rt.v (Tv.one Lf.bool)), fun n a => g48 n a.1 a.2.1 a.2.2.1⟩
/-- loop.example/g00462/impl.ValOk -/
def g28 : Nat → Int → Int → ByteArray → Option Bool
  | 0, _, _, _ => none
  | n + 1, a1, a2, a3 => (bif (a1 == (0 : Int)) then (let v4 : Bool := ((a1 == (0 : Int)) && ((a2 == (0 : Int)) && ((a3.toList == (⟨#[]⟩ : ByteArray).toList) && true))); (some v4)) else (bif (a1 == (1 : Int)) then ((g48 n a2 (0 : Int) (1 : Int)).bind fun r5 => (bif r5 then (let v6 : Bool := (a3.toList == (⟨#[]⟩ : ByteArray).toList); (some v6)) else (some false))) else (bif (a1 == (2 : Int)) then ((g48 n a2 (-1099511627775 : Int) (1099511627775 : Int)).bind fun r7 => (bif r7 then (let v8 : Bool := (a3.toList == (⟨#[]⟩ : ByteArray).toList); (some v8)) else (some false))) else (bif (a1 == (3 : Int)) then (bif (a2 == (0 : Int)) then (some (decide ((a3.size : Int) ≤ (30 : Int)))) else (some false)) else (some false)))))
def F28 : Fn' ((Int × (Int × ByteArray)) × Unit) Bool := ⟨28, (Tvs.cons (Tv.agg (Ls.cons (Lf.int .i64) (Ls.cons (Lf.int .i64) (Ls.one Lf.str)))) Tvs.nil), (Rt.v (Tv.one Lf.bool)), fun n a => g28 n a.1.1 a.1.2.1 a.1.2.2⟩
/-- loop.example/g00462/laws.FnExactValOk -/
def g8 : Nat → Int → Int → ByteArray → Option Bool
  | 0, _, _, _ => none
  | n + 1, a1, a2, a3 => ((g25 n a1 a2 a3 (1048576 : Int)).bind fun r4 => (bif (decide (r4 < (0 : Int))) then (some true) else ((g27 n a1 a2 a3).bind fun r5 => ((g26 n r5.1 r5.2.1 r5.2.2).bind fun r6 => ((g27 n a1 a2 a3).bind fun r7 => ((g28 n r7.1 r7.2.1 r7.2.2).bind fun r8 => (bif (!(r8 == r6)) then (some false) else (some true))))))))
def F8 : Fn' ((Int × (Int × ByteArray)) × Unit) Bool := ⟨8, (Tvs.cons (Tv.agg (Ls.cons (Lf.int .i64) (Ls.cons (Lf.int .i64) (Ls.one Lf.str)))) Tvs.nil), (Rt.v (Tv.one Lf.bool)), fun n a => g8 n a.1.1 a.1.2.1 a.1.2.2⟩
def ents : List Ent := [entOf F25, entOf F27, entOf F49, entOf F26, entOf F48, entOf F28, entOf F8]
def callC (n : Nat) : CF := chain ents n
theorem eq25 (n : Nat) (a) : evalBodyU env (callC n) n F25.g (F25.args.to a) F25.ret.un = F25.run (n + 1) a := by kernel_rfl
theorem eq27 (n : Nat) (a) : evalBodyU env (callC n) n F27.g (F27.args.to a) F27.ret.un = F27.run (n + 1) a := by kernel_rfl
theorem eq49 (n : Nat) (a) : evalBodyU env (callC n) n F49.g (F49.args.to a) F49.ret.un = F49.run (n + 1) a := by kernel_rfl
theorem eq26 (n : Nat) (a) : evalBodyU env (callC n) n F26.g (F26.args.to a) F26.ret.un = F26.run (n + 1) a := by kernel_rfl
theorem eq48 (n : Nat) (a) : evalBodyU env (callC n) n F48.g (F48.args.to a) F48.ret.un = F48.run (n + 1) a := by kernel_rfl
theorem eq28 (n : Nat) (a) : evalBodyU env (callC n) n F28.g (F28.args.to a) F28.ret.un = F28.run (n + 1) a := by kernel_rfl
theorem eq8 (n : Nat) (a) : evalBodyU env (callC n) n F8.g (F8.args.to a) F8.ret.un = F8.run (n + 1) a := by kernel_rfl
structure AllOk (n : Nat) : Prop where
  o25 : FnOk Try.prog F25 n
  o27 : FnOk Try.prog F27 n
  o49 : FnOk Try.prog F49 n
  o26 : FnOk Try.prog F26 n
  o48 : FnOk Try.prog F48 n
  o28 : FnOk Try.prog F28 n
  o8 : FnOk Try.prog F8 n
theorem calls_ok {n : Nat} (h : AllOk n) : CFok Try.prog (callC n) := chain_ok (by
  simp only [ents, List.forall_mem_cons, List.not_mem_nil, false_implies, implies_true, and_true]
  exact ⟨entOk_of h.o25, entOk_of h.o27, entOk_of h.o49, entOk_of h.o26, entOk_of h.o48, entOk_of h.o28, entOk_of h.o8⟩)
theorem all_ok : ∀ n, AllOk n
  | 0 => ⟨fnOk_zero fun a => rfl, fnOk_zero fun a => rfl, fnOk_zero fun a => rfl, fnOk_zero fun a => rfl, fnOk_zero fun a => rfl, fnOk_zero fun a => rfl, fnOk_zero fun a => rfl⟩
  | n + 1 => ⟨fnOk_succ envOk eqsOk (calls_ok (all_ok n)) (eq25 n), fnOk_succ envOk eqsOk (calls_ok (all_ok n)) (eq27 n), fnOk_succ envOk eqsOk (calls_ok (all_ok n)) (eq49 n), fnOk_succ envOk eqsOk (calls_ok (all_ok n)) (eq26 n), fnOk_succ envOk eqsOk (calls_ok (all_ok n)) (eq48 n), fnOk_succ envOk eqsOk (calls_ok (all_ok n)) (eq28 n), fnOk_succ envOk eqsOk (calls_ok (all_ok n)) (eq8 n)⟩
end Go.Proofs.Ytiahfopdamngiaa.Ev

/- The tables of the law FnExactCast: what the evaluator makes of the program is these functions. -/
import Derived.Test.YthfkolhjnioblaaEvFnFnExactCast
import Derived.Test.YthfkolhjnioblaaEvHead
import Derived.Test.YthfkolhjnioblaaEvEq
import Derived.Test.YthfkolhjnioblaaChecked
set_option linter.all false
namespace Go.Proofs.Ythfkolhjnioblaa.Ev
open Go Go.Proofs
def bytesT : List (Kd × Nat) := []
def bytesOf (f : Kd) : Nat := ((bytesT.find? fun p => decide (p.1 = f)).map (·.2)).getD 1
theorem bytes_pos (f : Kd) : 1 ≤ bytesOf f := by
  unfold bytesOf
  cases h : bytesT.find? fun p => decide (p.1 = f) with
  | none => exact Nat.le_refl _
  | some p =>
    have hp : ∀ q ∈ bytesT, 1 ≤ q.2 := by decide
    exact hp p (List.mem_of_find?_eq_some h)
noncomputable def env : Env := ⟨[(3, ⟨1, 0, false, [], (.int .i64)⟩),
  (4, ⟨1, 0, false, [], .bool⟩),
  (5, ⟨1, 0, false, [], (.int .u8)⟩),
  (9, ⟨1, 0, false, [], .str⟩),
  (29, ⟨3, 0, true, [(0, 1), (1, 1), (2, 1)], (.pair (.int .i64) (.pair (.int .i64) .str))⟩),
  (32, ⟨3, 0, true, [(0, 1), (1, 1), (2, 1)], (.pair (.int .i64) (.pair (.int .i64) .str))⟩),
  (35, ⟨1, 1, false, [], (.sl (.int .u8))⟩)],
  [(9, Try.f9), (20, Try.f20), (22, Try.f22), (33, Try.f33), (34, Try.f34), (45, Try.f45), (46, Try.f46), (47, Try.f47), (65, Try.f65), (66, Try.f66), (67, Try.f67), (69, Try.f69), (70, Try.f70), (71, Try.f71), (90, Try.f90), (103, Try.f103)], [], [(33, [(6, ⟨9, []⟩)]), (34, [(8, ⟨113, []⟩)]), (46, [(1000007, ⟨268435478, []⟩), (1000009, ⟨4503599627370518, []⟩), (1000011, ⟨36893488147419103254, []⟩), (1000013, ⟨302231454903657293676566, []⟩), (1000015, ⟨309485009821345068724781078, []⟩), (1000017, ⟨316912650057057350374175801366, []⟩), (1000020, ⟨16, []⟩)]), (90, [(5, ⟨49, []⟩)])], [32]⟩
theorem envOk : EnvOk Try.prog env := envOk_of (by kernel_rfl) (by
  simp only [env, List.forall_mem_cons, List.not_mem_nil, false_implies, implies_true, and_true]
  exact ⟨⟨Try.func9, by kernel_rfl⟩, ⟨Try.func20, by kernel_rfl⟩, ⟨Try.func22, by kernel_rfl⟩, ⟨Try.func33, by kernel_rfl⟩, ⟨Try.func34, by kernel_rfl⟩, ⟨Try.func45, by kernel_rfl⟩, ⟨Try.func46, by kernel_rfl⟩, ⟨Try.func47, by kernel_rfl⟩, ⟨Try.func65, by kernel_rfl⟩, ⟨Try.func66, by kernel_rfl⟩, ⟨Try.func67, by kernel_rfl⟩, ⟨Try.func69, by kernel_rfl⟩, ⟨Try.func70, by kernel_rfl⟩, ⟨Try.func71, by kernel_rfl⟩, ⟨Try.func90, by kernel_rfl⟩, ⟨Try.func103, by kernel_rfl⟩⟩) (by kernel_rfl)
theorem eqsOk : EqsOk Try.prog env := eqsOk_of (by kernel_rfl)
def F_laws_szVal : Fn' ((Int × (Int × ByteArray)) × (Int × Unit)) Int := ⟨20, (Tvs.cons (Tv.agg (Ls.cons (Lf.int .i64) (Ls.cons (Lf.int .i64) (Ls.one Lf.str)))) (Tvs.cons (Tv.one (Lf.int .i64)) Tvs.nil)), (Rt.v (Tv.one (Lf.int .i64))), fun n a => laws_szVal n a.1.1 a.1.2.1 a.1.2.2 a.2.1⟩
def F_laws_toVal : Fn' ((Int × (Int × ByteArray)) × Unit) (Int × (Int × ByteArray)) := ⟨22, (Tvs.cons (Tv.agg (Ls.cons (Lf.int .i64) (Ls.cons (Lf.int .i64) (Ls.one Lf.str)))) Tvs.nil), (Rt.v (Tv.agg (Ls.cons (Lf.int .i64) (Ls.cons (Lf.int .i64) (Ls.one Lf.str))))), fun n a => laws_toVal n a.1.1 a.1.2.1 a.1.2.2⟩
def F_spec_l01Num : Fn' (Int × Unit) Bool := ⟨103, (Tvs.cons (Tv.one (Lf.int .i64)) Tvs.nil), (Rt.v (Tv.one Lf.bool)), fun n a => spec_l01Num n a.1⟩
def F_spec_ValOk : Fn' ((Int × (Int × ByteArray)) × Unit) Bool := ⟨65, (Tvs.cons (Tv.agg (Ls.cons (Lf.int .i64) (Ls.cons (Lf.int .i64) (Ls.one Lf.str)))) Tvs.nil), (Rt.v (Tv.one Lf.bool)), fun n a => spec_ValOk n a.1.1 a.1.2.1 a.1.2.2⟩
def F_spec_NumText : Fn' (Int × Unit) ByteArray := ⟨67, (Tvs.cons (Tv.one (Lf.int .i64)) Tvs.nil), (Rt.v (Tv.one Lf.str)), fun n a => spec_NumText n a.1⟩
def F_spec_l01Bool : Fn' (Int × Unit) ByteArray := ⟨66, (Tvs.cons (Tv.one (Lf.int .i64)) Tvs.nil), (Rt.v (Tv.one Lf.str)), fun n a => spec_l01Bool n a.1⟩
def F_spec_TextNum : Fn' (ByteArray × Unit) (Int × (Bool × Unit)) := ⟨90, (Tvs.cons (Tv.one Lf.str) Tvs.nil), (Rt.tup (Tvs.cons (Tv.one (Lf.int .i64)) (Tvs.cons (Tv.one Lf.bool) Tvs.nil))), fun n a => spec_TextNum n a.1⟩
def S_spec_TextNum_L1 := Sh.of (Sl.one Lf.str (Sl.gap 3 (Sl.one (Lf.int .i64) (Sl.one (Lf.int .i64) (Sl.gap 49 Sl.nil))))) Rw.nil Ls.nil
def T_spec_TextNum (n : Nat) : Tab (Int × (Bool × Unit)) := [([.b, .r, .l, .r, .r, .r], row1 S_spec_TextNum_L1 fun j a => spec_TextNum_L1 n j a.1.1 a.1.2.1 a.1.2.2.1)]
def F_spec_Cast : Fn' ((Int × (Int × ByteArray)) × (Int × Unit)) ((Int × (Int × ByteArray)) × (Bool × Unit)) := ⟨45, (Tvs.cons (Tv.agg (Ls.cons (Lf.int .i64) (Ls.cons (Lf.int .i64) (Ls.one Lf.str)))) (Tvs.cons (Tv.one (Lf.int .i64)) Tvs.nil)), (Rt.tup (Tvs.cons (Tv.agg (Ls.cons (Lf.int .i64) (Ls.cons (Lf.int .i64) (Ls.one Lf.str)))) (Tvs.cons (Tv.one Lf.bool) Tvs.nil))), fun n a => spec_Cast n a.1.1 a.1.2.1 a.1.2.2 a.2.1⟩
def F_impl_within : Fn' (Int × (Int × (Int × Unit))) Bool := ⟨71, (Tvs.cons (Tv.one (Lf.int .i64)) (Tvs.cons (Tv.one (Lf.int .i64)) (Tvs.cons (Tv.one (Lf.int .i64)) Tvs.nil))), (Rt.v (Tv.one Lf.bool)), fun n a => impl_within n a.1 a.2.1 a.2.2.1⟩
def F_impl_ValOk : Fn' ((Int × (Int × ByteArray)) × Unit) Bool := ⟨69, (Tvs.cons (Tv.agg (Ls.cons (Lf.int .i64) (Ls.cons (Lf.int .i64) (Ls.one Lf.str)))) Tvs.nil), (Rt.v (Tv.one Lf.bool)), fun n a => impl_ValOk n a.1.1 a.1.2.1 a.1.2.2⟩
def F_impl_boolText : Fn' (Int × Unit) ByteArray := ⟨70, (Tvs.cons (Tv.one (Lf.int .i64)) Tvs.nil), (Rt.v (Tv.one Lf.str)), fun n a => impl_boolText n a.1⟩
def F_impl_NumText : Fn' (Int × Unit) ByteArray := ⟨33, (Tvs.cons (Tv.one (Lf.int .i64)) Tvs.nil), (Rt.v (Tv.one Lf.str)), fun n a => impl_NumText n a.1⟩
def S_impl_NumText_L1 := Sh.of (Sl.one (Lf.int .i64) (Sl.gap 2 (Sl.one Lf.str (Sl.gap 28 Sl.nil)))) Rw.nil Ls.nil
def T_impl_NumText (n : Nat) : Tab ByteArray := [([.b, .l, .r, .r, .r, .r], row1 S_impl_NumText_L1 fun j a => impl_NumText_L1 n j a.1.1 a.1.2.1)]
def F_impl_TextNum : Fn' (ByteArray × Unit) (Int × (Bool × Unit)) := ⟨34, (Tvs.cons (Tv.one Lf.str) Tvs.nil), (Rt.tup (Tvs.cons (Tv.one (Lf.int .i64)) (Tvs.cons (Tv.one Lf.bool) Tvs.nil))), fun n a => impl_TextNum n a.1⟩
def S_impl_TextNum_L1 := Sh.of (Sl.one Lf.str (Sl.gap 3 (Sl.one (Lf.int .i64) (Sl.one (Lf.int .i64) (Sl.one (Lf.int .i64) (Sl.gap 48 Sl.nil)))))) Rw.nil Ls.nil
def T_impl_TextNum (n : Nat) : Tab (Int × (Bool × Unit)) := [([.b, .r, .l, .r, .r, .r, .r, .r], row1 S_impl_TextNum_L1 fun j a => impl_TextNum_L1 n j a.1.1 a.1.2.1 a.1.2.2.1 a.1.2.2.2.1)]
def F_impl_Cast : Fn' ((Int × (Int × ByteArray)) × (Int × Unit)) ((Int × (Int × ByteArray)) × (Bool × Unit)) := ⟨46, (Tvs.cons (Tv.agg (Ls.cons (Lf.int .i64) (Ls.cons (Lf.int .i64) (Ls.one Lf.str)))) (Tvs.cons (Tv.one (Lf.int .i64)) Tvs.nil)), (Rt.tup (Tvs.cons (Tv.agg (Ls.cons (Lf.int .i64) (Ls.cons (Lf.int .i64) (Ls.one Lf.str)))) (Tvs.cons (Tv.one Lf.bool) Tvs.nil))), fun n a => impl_Cast n a.1.1 a.1.2.1 a.1.2.2 a.2.1⟩
def S_impl_Cast_K7 := Sh.of (Sl.gap 4 (Sl.k (Kf.box 296 0) (Sl.gap 112 Sl.nil))) (Rw.box 296 (.pair (.int .i64) (.pair (.int .i64) .str)) (Ls.cons (Lf.int .i64) (Ls.cons (Lf.int .i64) (Ls.cons Lf.str Ls.nil))) Rw.nil) Ls.nil
def S_impl_Cast_K6 := Sh.of (Sl.gap 1 (Sl.one (Lf.int .i64) (Sl.k (Kf.box 168 0) (Sl.gap 1 (Sl.k (Kf.box 296 0) (Sl.gap 93 (Sl.one Lf.bool (Sl.gap 18 Sl.nil)))))))) (Rw.box 168 (.pair (.int .i64) (.pair (.int .i64) .str)) (Ls.cons (Lf.int .i64) (Ls.cons (Lf.int .i64) (Ls.cons Lf.str Ls.nil))) (Rw.box 296 (.pair (.int .i64) (.pair (.int .i64) .str)) (Ls.cons (Lf.int .i64) (Ls.cons (Lf.int .i64) (Ls.cons Lf.str Ls.nil))) Rw.nil)) Ls.nil
def S_impl_Cast_K5 := Sh.of (Sl.gap 1 (Sl.one (Lf.int .i64) (Sl.k (Kf.box 168 0) (Sl.gap 1 (Sl.k (Kf.box 296 0) (Sl.gap 83 (Sl.one Lf.bool (Sl.gap 28 Sl.nil)))))))) (Rw.box 168 (.pair (.int .i64) (.pair (.int .i64) .str)) (Ls.cons (Lf.int .i64) (Ls.cons (Lf.int .i64) (Ls.cons Lf.str Ls.nil))) (Rw.box 296 (.pair (.int .i64) (.pair (.int .i64) .str)) (Ls.cons (Lf.int .i64) (Ls.cons (Lf.int .i64) (Ls.cons Lf.str Ls.nil))) Rw.nil)) Ls.nil
def S_impl_Cast_K4 := Sh.of (Sl.gap 1 (Sl.one (Lf.int .i64) (Sl.k (Kf.box 168 0) (Sl.gap 1 (Sl.k (Kf.box 296 0) (Sl.gap 73 (Sl.one Lf.bool (Sl.gap 38 Sl.nil)))))))) (Rw.box 168 (.pair (.int .i64) (.pair (.int .i64) .str)) (Ls.cons (Lf.int .i64) (Ls.cons (Lf.int .i64) (Ls.cons Lf.str Ls.nil))) (Rw.box 296 (.pair (.int .i64) (.pair (.int .i64) .str)) (Ls.cons (Lf.int .i64) (Ls.cons (Lf.int .i64) (Ls.cons Lf.str Ls.nil))) Rw.nil)) Ls.nil
def S_impl_Cast_K3 := Sh.of (Sl.gap 1 (Sl.one (Lf.int .i64) (Sl.k (Kf.box 168 0) (Sl.gap 1 (Sl.k (Kf.box 296 0) (Sl.gap 60 (Sl.one Lf.bool (Sl.gap 51 Sl.nil)))))))) (Rw.box 168 (.pair (.int .i64) (.pair (.int .i64) .str)) (Ls.cons (Lf.int .i64) (Ls.cons (Lf.int .i64) (Ls.cons Lf.str Ls.nil))) (Rw.box 296 (.pair (.int .i64) (.pair (.int .i64) .str)) (Ls.cons (Lf.int .i64) (Ls.cons (Lf.int .i64) (Ls.cons Lf.str Ls.nil))) Rw.nil)) Ls.nil
def S_impl_Cast_K2 := Sh.of (Sl.gap 1 (Sl.one (Lf.int .i64) (Sl.k (Kf.box 168 0) (Sl.gap 1 (Sl.k (Kf.box 296 0) (Sl.gap 47 (Sl.one Lf.bool (Sl.gap 64 Sl.nil)))))))) (Rw.box 168 (.pair (.int .i64) (.pair (.int .i64) .str)) (Ls.cons (Lf.int .i64) (Ls.cons (Lf.int .i64) (Ls.cons Lf.str Ls.nil))) (Rw.box 296 (.pair (.int .i64) (.pair (.int .i64) .str)) (Ls.cons (Lf.int .i64) (Ls.cons (Lf.int .i64) (Ls.cons Lf.str Ls.nil))) Rw.nil)) Ls.nil
def S_impl_Cast_K1 := Sh.of (Sl.gap 1 (Sl.one (Lf.int .i64) (Sl.k (Kf.box 168 0) (Sl.gap 1 (Sl.k (Kf.box 296 0) (Sl.gap 23 (Sl.one Lf.bool (Sl.gap 88 Sl.nil)))))))) (Rw.box 168 (.pair (.int .i64) (.pair (.int .i64) .str)) (Ls.cons (Lf.int .i64) (Ls.cons (Lf.int .i64) (Ls.cons Lf.str Ls.nil))) (Rw.box 296 (.pair (.int .i64) (.pair (.int .i64) .str)) (Ls.cons (Lf.int .i64) (Ls.cons (Lf.int .i64) (Ls.cons Lf.str Ls.nil))) Rw.nil)) Ls.nil
def T_impl_Cast (n : Nat) : Tab ((Int × (Int × ByteArray)) × (Bool × Unit)) := [([.r, .r, .r], row1 S_impl_Cast_K7 fun j a => impl_Cast_K7 n j a.2.1.1 a.2.1.2.1 a.2.1.2.2.1),
  ([.r, .f, .r, .f, .r, .f, .r, .f, .r, .f, .r, .f, .r, .b, .l, .r, .r], row1 S_impl_Cast_K6 fun j a => impl_Cast_K6 n j a.1.1 a.1.2.1 a.2.1.1 a.2.1.2.1 a.2.1.2.2.1 a.2.2.1.1 a.2.2.1.2.1 a.2.2.1.2.2.1),
  ([.r, .f, .r, .f, .r, .f, .r, .f, .r, .f, .r, .b, .l, .r, .r], row1 S_impl_Cast_K5 fun j a => impl_Cast_K5 n j a.1.1 a.1.2.1 a.2.1.1 a.2.1.2.1 a.2.1.2.2.1 a.2.2.1.1 a.2.2.1.2.1 a.2.2.1.2.2.1),
  ([.r, .f, .r, .f, .r, .f, .r, .f, .r, .b, .l, .r, .r], row1 S_impl_Cast_K4 fun j a => impl_Cast_K4 n j a.1.1 a.1.2.1 a.2.1.1 a.2.1.2.1 a.2.1.2.2.1 a.2.2.1.1 a.2.2.1.2.1 a.2.2.1.2.2.1),
  ([.r, .f, .r, .f, .r, .f, .r, .b, .l, .r, .r], row1 S_impl_Cast_K3 fun j a => impl_Cast_K3 n j a.1.1 a.1.2.1 a.2.1.1 a.2.1.2.1 a.2.1.2.2.1 a.2.2.1.1 a.2.2.1.2.1 a.2.2.1.2.2.1),
  ([.r, .f, .r, .f, .r, .b, .l, .r, .r], row1 S_impl_Cast_K2 fun j a => impl_Cast_K2 n j a.1.1 a.1.2.1 a.2.1.1 a.2.1.2.1 a.2.1.2.2.1 a.2.2.1.1 a.2.2.1.2.1 a.2.2.1.2.2.1),
  ([.r, .f, .r, .b, .l, .r, .r], row1 S_impl_Cast_K1 fun j a => impl_Cast_K1 n j a.1.1 a.1.2.1 a.2.1.1 a.2.1.2.1 a.2.1.2.2.1 a.2.2.1.1 a.2.2.1.2.1 a.2.2.1.2.2.1)]
def F_laws_eqVal : Fn' ((Int × (Int × ByteArray)) × ((Int × (Int × ByteArray)) × Unit)) Bool := ⟨47, (Tvs.cons (Tv.agg (Ls.cons (Lf.int .i64) (Ls.cons (Lf.int .i64) (Ls.one Lf.str)))) (Tvs.cons (Tv.agg (Ls.cons (Lf.int .i64) (Ls.cons (Lf.int .i64) (Ls.one Lf.str)))) Tvs.nil)), (Rt.v (Tv.one Lf.bool)), fun n a => laws_eqVal n a.1.1 a.1.2.1 a.1.2.2 a.2.1.1 a.2.1.2.1 a.2.1.2.2⟩
def F_laws_FnExactCast : Fn' ((Int × (Int × ByteArray)) × (Int × Unit)) Bool := ⟨9, (Tvs.cons (Tv.agg (Ls.cons (Lf.int .i64) (Ls.cons (Lf.int .i64) (Ls.one Lf.str)))) (Tvs.cons (Tv.one (Lf.int .i64)) Tvs.nil)), (Rt.v (Tv.one Lf.bool)), fun n a => laws_FnExactCast n a.1.1 a.1.2.1 a.1.2.2 a.2.1⟩
def ents : List Ent := [entOf F_laws_szVal, entOf F_laws_toVal, entOf F_spec_l01Num, entOf F_spec_ValOk, entOf F_spec_NumText, entOf F_spec_l01Bool, entOf F_spec_TextNum, entOf F_spec_Cast, entOf F_impl_within, entOf F_impl_ValOk, entOf F_impl_boolText, entOf F_impl_NumText, entOf F_impl_TextNum, entOf F_impl_Cast, entOf F_laws_eqVal, entOf F_laws_FnExactCast]
def callC (n : Nat) : CF := chain ents n
theorem eq_laws_szVal (n : Nat) (a) : evalBodyU env (callC n) n F_laws_szVal.g [] (F_laws_szVal.args.to a) F_laws_szVal.ret.un = F_laws_szVal.run (n + 1) a := by kernel_rfl
theorem eq_laws_toVal (n : Nat) (a) : evalBodyU env (callC n) n F_laws_toVal.g [] (F_laws_toVal.args.to a) F_laws_toVal.ret.un = F_laws_toVal.run (n + 1) a := by kernel_rfl
theorem eq_spec_l01Num (n : Nat) (a) : evalBodyU env (callC n) n F_spec_l01Num.g [] (F_spec_l01Num.args.to a) F_spec_l01Num.ret.un = F_spec_l01Num.run (n + 1) a := by kernel_rfl
theorem eq_spec_ValOk (n : Nat) (a) : evalBodyU env (callC n) n F_spec_ValOk.g [] (F_spec_ValOk.args.to a) F_spec_ValOk.ret.un = F_spec_ValOk.run (n + 1) a := by kernel_rfl
theorem eq_spec_NumText (n : Nat) (a) : evalBodyU env (callC n) n F_spec_NumText.g [] (F_spec_NumText.args.to a) F_spec_NumText.ret.un = F_spec_NumText.run (n + 1) a := by kernel_rfl
theorem eq_spec_l01Bool (n : Nat) (a) : evalBodyU env (callC n) n F_spec_l01Bool.g [] (F_spec_l01Bool.args.to a) F_spec_l01Bool.ret.un = F_spec_l01Bool.run (n + 1) a := by kernel_rfl
theorem eq_spec_TextNum (n : Nat) (a) : evalBodyU env (callC n) n F_spec_TextNum.g (T_spec_TextNum n) (F_spec_TextNum.args.to a) F_spec_TextNum.ret.un = F_spec_TextNum.run (n + 1) a := by kernel_rfl
theorem tab_spec_TextNum (n : Nat) : TabOk env (callC n) n F_spec_TextNum.g (T_spec_TextNum n) F_spec_TextNum.ret.un := tabOk (List.forall_mem_cons.mpr ⟨row1_ok (fun _ => rfl) (fun _ _ => by kernel_rfl), List.forall_mem_nil _⟩)
theorem eq_spec_Cast (n : Nat) (a) : evalBodyU env (callC n) n F_spec_Cast.g [] (F_spec_Cast.args.to a) F_spec_Cast.ret.un = F_spec_Cast.run (n + 1) a := by kernel_rfl
theorem eq_impl_within (n : Nat) (a) : evalBodyU env (callC n) n F_impl_within.g [] (F_impl_within.args.to a) F_impl_within.ret.un = F_impl_within.run (n + 1) a := by kernel_rfl
theorem eq_impl_ValOk (n : Nat) (a) : evalBodyU env (callC n) n F_impl_ValOk.g [] (F_impl_ValOk.args.to a) F_impl_ValOk.ret.un = F_impl_ValOk.run (n + 1) a := by kernel_rfl
theorem eq_impl_boolText (n : Nat) (a) : evalBodyU env (callC n) n F_impl_boolText.g [] (F_impl_boolText.args.to a) F_impl_boolText.ret.un = F_impl_boolText.run (n + 1) a := by kernel_rfl
theorem eq_impl_NumText (n : Nat) (a) : evalBodyU env (callC n) n F_impl_NumText.g (T_impl_NumText n) (F_impl_NumText.args.to a) F_impl_NumText.ret.un = F_impl_NumText.run (n + 1) a := by kernel_rfl
theorem tab_impl_NumText (n : Nat) : TabOk env (callC n) n F_impl_NumText.g (T_impl_NumText n) F_impl_NumText.ret.un := tabOk (List.forall_mem_cons.mpr ⟨row1_ok (fun _ => rfl) (fun _ _ => by kernel_rfl), List.forall_mem_nil _⟩)
theorem eq_impl_TextNum (n : Nat) (a) : evalBodyU env (callC n) n F_impl_TextNum.g (T_impl_TextNum n) (F_impl_TextNum.args.to a) F_impl_TextNum.ret.un = F_impl_TextNum.run (n + 1) a := by kernel_rfl
theorem tab_impl_TextNum (n : Nat) : TabOk env (callC n) n F_impl_TextNum.g (T_impl_TextNum n) F_impl_TextNum.ret.un := tabOk (List.forall_mem_cons.mpr ⟨row1_ok (fun _ => rfl) (fun _ _ => by kernel_rfl), List.forall_mem_nil _⟩)
theorem eq_impl_Cast (n : Nat) (a) : evalBodyU env (callC n) n F_impl_Cast.g (T_impl_Cast n) (F_impl_Cast.args.to a) F_impl_Cast.ret.un = F_impl_Cast.run (n + 1) a := by kernel_rfl
theorem tab_impl_Cast (n : Nat) : TabOk env (callC n) n F_impl_Cast.g (T_impl_Cast n) F_impl_Cast.ret.un := tabOk (List.forall_mem_cons.mpr ⟨row1_ok (fun _ => rfl) (fun _ _ => by kernel_rfl), List.forall_mem_cons.mpr ⟨row1_ok (fun _ => rfl) (fun _ _ => by kernel_rfl), List.forall_mem_cons.mpr ⟨row1_ok (fun _ => rfl) (fun _ _ => by kernel_rfl), List.forall_mem_cons.mpr ⟨row1_ok (fun _ => rfl) (fun _ _ => by kernel_rfl), List.forall_mem_cons.mpr ⟨row1_ok (fun _ => rfl) (fun _ _ => by kernel_rfl), List.forall_mem_cons.mpr ⟨row1_ok (fun _ => rfl) (fun _ _ => by kernel_rfl), List.forall_mem_cons.mpr ⟨row1_ok (fun _ => rfl) (fun _ _ => by kernel_rfl), List.forall_mem_nil _⟩⟩⟩⟩⟩⟩⟩)
theorem eq_laws_eqVal (n : Nat) (a) : evalBodyU env (callC n) n F_laws_eqVal.g [] (F_laws_eqVal.args.to a) F_laws_eqVal.ret.un = F_laws_eqVal.run (n + 1) a := by kernel_rfl
theorem eq_laws_FnExactCast (n : Nat) (a) : evalBodyU env (callC n) n F_laws_FnExactCast.g [] (F_laws_FnExactCast.args.to a) F_laws_FnExactCast.ret.un = F_laws_FnExactCast.run (n + 1) a := by kernel_rfl
structure AllOk (n : Nat) : Prop where
  o_laws_szVal : FnOk Try.prog F_laws_szVal n
  o_laws_toVal : FnOk Try.prog F_laws_toVal n
  o_spec_l01Num : FnOk Try.prog F_spec_l01Num n
  o_spec_ValOk : FnOk Try.prog F_spec_ValOk n
  o_spec_NumText : FnOk Try.prog F_spec_NumText n
  o_spec_l01Bool : FnOk Try.prog F_spec_l01Bool n
  o_spec_TextNum : FnOk Try.prog F_spec_TextNum n
  o_spec_Cast : FnOk Try.prog F_spec_Cast n
  o_impl_within : FnOk Try.prog F_impl_within n
  o_impl_ValOk : FnOk Try.prog F_impl_ValOk n
  o_impl_boolText : FnOk Try.prog F_impl_boolText n
  o_impl_NumText : FnOk Try.prog F_impl_NumText n
  o_impl_TextNum : FnOk Try.prog F_impl_TextNum n
  o_impl_Cast : FnOk Try.prog F_impl_Cast n
  o_laws_eqVal : FnOk Try.prog F_laws_eqVal n
  o_laws_FnExactCast : FnOk Try.prog F_laws_FnExactCast n
theorem calls_ok {n : Nat} (h : AllOk n) : CFok Try.prog (callC n) := chain_ok (by
  simp only [ents, List.forall_mem_cons, List.not_mem_nil, false_implies, implies_true, and_true]
  exact ⟨entOk_of h.o_laws_szVal, entOk_of h.o_laws_toVal, entOk_of h.o_spec_l01Num, entOk_of h.o_spec_ValOk, entOk_of h.o_spec_NumText, entOk_of h.o_spec_l01Bool, entOk_of h.o_spec_TextNum, entOk_of h.o_spec_Cast, entOk_of h.o_impl_within, entOk_of h.o_impl_ValOk, entOk_of h.o_impl_boolText, entOk_of h.o_impl_NumText, entOk_of h.o_impl_TextNum, entOk_of h.o_impl_Cast, entOk_of h.o_laws_eqVal, entOk_of h.o_laws_FnExactCast⟩)
theorem calls_det (n : Nat) : CFdet (callC n) := chain_det (by
  simp only [ents, List.forall_mem_cons, List.not_mem_nil, false_implies, implies_true, and_true]
  exact ⟨entDet F_laws_szVal, entDet F_laws_toVal, entDet F_spec_l01Num, entDet F_spec_ValOk, entDet F_spec_NumText, entDet F_spec_l01Bool, entDet F_spec_TextNum, entDet F_spec_Cast, entDet F_impl_within, entDet F_impl_ValOk, entDet F_impl_boolText, entDet F_impl_NumText, entDet F_impl_TextNum, entDet F_impl_Cast, entDet F_laws_eqVal, entDet F_laws_FnExactCast⟩)
theorem all_ok : ∀ n, AllOk n
  | 0 => ⟨fnOk_zero fun a => rfl, fnOk_zero fun a => rfl, fnOk_zero fun a => rfl, fnOk_zero fun a => rfl, fnOk_zero fun a => rfl, fnOk_zero fun a => rfl, fnOk_zero fun a => rfl, fnOk_zero fun a => rfl, fnOk_zero fun a => rfl, fnOk_zero fun a => rfl, fnOk_zero fun a => rfl, fnOk_zero fun a => rfl, fnOk_zero fun a => rfl, fnOk_zero fun a => rfl, fnOk_zero fun a => rfl, fnOk_zero fun a => rfl⟩
  | n + 1 => ⟨fnOk_succ envOk eqsOk (calls_ok (all_ok n)) (calls_det n) tabOk_nil (eq_laws_szVal n), fnOk_succ envOk eqsOk (calls_ok (all_ok n)) (calls_det n) tabOk_nil (eq_laws_toVal n), fnOk_succ envOk eqsOk (calls_ok (all_ok n)) (calls_det n) tabOk_nil (eq_spec_l01Num n), fnOk_succ envOk eqsOk (calls_ok (all_ok n)) (calls_det n) tabOk_nil (eq_spec_ValOk n), fnOk_succ envOk eqsOk (calls_ok (all_ok n)) (calls_det n) tabOk_nil (eq_spec_NumText n), fnOk_succ envOk eqsOk (calls_ok (all_ok n)) (calls_det n) tabOk_nil (eq_spec_l01Bool n), fnOk_succ envOk eqsOk (calls_ok (all_ok n)) (calls_det n) (tab_spec_TextNum n) (eq_spec_TextNum n), fnOk_succ envOk eqsOk (calls_ok (all_ok n)) (calls_det n) tabOk_nil (eq_spec_Cast n), fnOk_succ envOk eqsOk (calls_ok (all_ok n)) (calls_det n) tabOk_nil (eq_impl_within n), fnOk_succ envOk eqsOk (calls_ok (all_ok n)) (calls_det n) tabOk_nil (eq_impl_ValOk n), fnOk_succ envOk eqsOk (calls_ok (all_ok n)) (calls_det n) tabOk_nil (eq_impl_boolText n), fnOk_succ envOk eqsOk (calls_ok (all_ok n)) (calls_det n) (tab_impl_NumText n) (eq_impl_NumText n), fnOk_succ envOk eqsOk (calls_ok (all_ok n)) (calls_det n) (tab_impl_TextNum n) (eq_impl_TextNum n), fnOk_succ envOk eqsOk (calls_ok (all_ok n)) (calls_det n) (tab_impl_Cast n) (eq_impl_Cast n), fnOk_succ envOk eqsOk (calls_ok (all_ok n)) (calls_det n) tabOk_nil (eq_laws_eqVal n), fnOk_succ envOk eqsOk (calls_ok (all_ok n)) (calls_det n) tabOk_nil (eq_laws_FnExactCast n)⟩
end Go.Proofs.Ythfkolhjnioblaa.Ev

/- The tables of the law FnExactSameRows: what the evaluator makes of the program is these functions. -/
import Derived.Test.YthfkolhjnioblaaEvFnFnExactSameRows
import Derived.Test.YthfkolhjnioblaaEvHead
import Derived.Test.YthfkolhjnioblaaEvEq
import Derived.Test.YthfkolhjnioblaaChecked
set_option linter.all false
namespace Go.Proofs.Ythfkolhjnioblaa.Ev
open Go Go.Proofs
def bytesT : List (Kd × Nat) := [((.sl (.pair (.int .i64) (.pair (.int .i64) .str))), 24), ((.pair (.int .i64) (.pair (.int .i64) .str)), 32)]
def bytesOf (f : Kd) : Nat := ((bytesT.find? fun p => decide (p.1 = f)).map (·.2)).getD 1
theorem bytes_pos (f : Kd) : 1 ≤ bytesOf f := by
  unfold bytesOf
  cases h : bytesT.find? fun p => decide (p.1 = f) with
  | none => exact Nat.le_refl _
  | some p =>
    have hp : ∀ q ∈ bytesT, 1 ≤ q.2 := by decide
    exact hp p (List.mem_of_find?_eq_some h)
noncomputable def env : Env := ⟨[(3, ⟨1, 0, false, [], (.int .i64)⟩),
  (4, ⟨1, 0, false, [], .bool⟩),
  (9, ⟨1, 0, false, [], .str⟩),
  (22, ⟨1, 32, false, [], (.sl (.pair (.int .i64) (.pair (.int .i64) .str)))⟩),
  (25, ⟨1, 32, false, [], (.sl (.pair (.int .i64) (.pair (.int .i64) .str)))⟩),
  (29, ⟨3, 0, true, [(0, 1), (1, 1), (2, 1)], (.pair (.int .i64) (.pair (.int .i64) .str))⟩),
  (32, ⟨3, 0, true, [(0, 1), (1, 1), (2, 1)], (.pair (.int .i64) (.pair (.int .i64) .str))⟩),
  (48, ⟨1, 24, false, [], (.sl (.sl (.pair (.int .i64) (.pair (.int .i64) .str))))⟩),
  (51, ⟨1, 24, false, [], (.sl (.sl (.pair (.int .i64) (.pair (.int .i64) .str))))⟩),
  (82, ⟨1, 0, true, [(0, 1)], (.sl (.pair (.int .i64) (.pair (.int .i64) .str)))⟩),
  (86, ⟨1, 0, true, [(0, 1)], (.sl (.pair (.int .i64) (.pair (.int .i64) .str)))⟩)],
  [(7, Try.f7), (15, Try.f15), (17, Try.f17), (19, Try.f19), (20, Try.f20), (22, Try.f22), (35, Try.f35), (36, Try.f36), (37, Try.f37), (38, Try.f38), (39, Try.f39), (47, Try.f47), (55, Try.f55), (57, Try.f57), (59, Try.f59), (78, Try.f78), (79, Try.f79), (80, Try.f80), (81, Try.f81)], [], [(15, [(5, ⟨35, []⟩)]), (17, [(3, ⟨25, []⟩)]), (19, [(4, ⟨35, []⟩)]), (35, [(5, ⟨35, []⟩)]), (36, [(4, ⟨12291, []⟩)]), (37, [(3, ⟨25, []⟩)]), (39, [(4, ⟨35, []⟩)]), (78, [(4, ⟨12291, []⟩)]), (79, [(4, ⟨229382, []⟩)]), (81, [(4, ⟨12291, []⟩)])], [32]⟩
theorem envOk : EnvOk Try.prog env := envOk_of (by kernel_rfl) (by
  simp only [env, List.forall_mem_cons, List.not_mem_nil, false_implies, implies_true, and_true]
  exact ⟨⟨Try.func7, by kernel_rfl⟩, ⟨Try.func15, by kernel_rfl⟩, ⟨Try.func17, by kernel_rfl⟩, ⟨Try.func19, by kernel_rfl⟩, ⟨Try.func20, by kernel_rfl⟩, ⟨Try.func22, by kernel_rfl⟩, ⟨Try.func35, by kernel_rfl⟩, ⟨Try.func36, by kernel_rfl⟩, ⟨Try.func37, by kernel_rfl⟩, ⟨Try.func38, by kernel_rfl⟩, ⟨Try.func39, by kernel_rfl⟩, ⟨Try.func47, by kernel_rfl⟩, ⟨Try.func55, by kernel_rfl⟩, ⟨Try.func57, by kernel_rfl⟩, ⟨Try.func59, by kernel_rfl⟩, ⟨Try.func78, by kernel_rfl⟩, ⟨Try.func79, by kernel_rfl⟩, ⟨Try.func80, by kernel_rfl⟩, ⟨Try.func81, by kernel_rfl⟩⟩) (by kernel_rfl)
theorem eqsOk : EqsOk Try.prog env := eqsOk_of (by kernel_rfl)
def F_laws_szVal : Fn' ((Int × (Int × ByteArray)) × (Int × Unit)) Int := ⟨20, (Tvs.cons (Tv.agg (Ls.cons (Lf.int .i64) (Ls.cons (Lf.int .i64) (Ls.one Lf.str)))) (Tvs.cons (Tv.one (Lf.int .i64)) Tvs.nil)), (Rt.v (Tv.one (Lf.int .i64))), fun n a => laws_szVal n a.1.1 a.1.2.1 a.1.2.2 a.2.1⟩
def F_laws_szValS : Fn' ((List (Int × (Int × ByteArray))) × (Int × Unit)) Int := ⟨15, (Tvs.cons (Tv.one (Lf.sh (.pair (.int .i64) (.pair (.int .i64) .str)))) (Tvs.cons (Tv.one (Lf.int .i64)) Tvs.nil)), (Rt.v (Tv.one (Lf.int .i64))), fun n a => laws_szValS n a.1 a.2.1⟩
def S_laws_szValS_L1 := Sh.of (Sl.one (Lf.sh (.pair (.int .i64) (.pair (.int .i64) .str))) (Sl.one (Lf.int .i64) (Sl.gap 3 (Sl.one (Lf.int .i64) (Sl.gap 21 Sl.nil))))) Rw.nil Ls.nil
def T_laws_szValS (n : Nat) : Tab Int := [([.b, .r, .l, .r, .r, .r], row1 S_laws_szValS_L1 fun j a => laws_szValS_L1 n j a.1.1 a.1.2.1 a.1.2.2.1)]
def F_laws_szRow : Fn' ((List (Int × (Int × ByteArray))) × (Int × Unit)) Int := ⟨55, (Tvs.cons (Tv.agg (Ls.one (Lf.sh (.pair (.int .i64) (.pair (.int .i64) .str))))) (Tvs.cons (Tv.one (Lf.int .i64)) Tvs.nil)), (Rt.v (Tv.one (Lf.int .i64))), fun n a => laws_szRow n a.1 a.2.1⟩
def F_laws_szRowS : Fn' ((List (List (Int × (Int × ByteArray)))) × (Int × Unit)) Int := ⟨35, (Tvs.cons (Tv.one (Lf.sh (.sl (.pair (.int .i64) (.pair (.int .i64) .str))))) (Tvs.cons (Tv.one (Lf.int .i64)) Tvs.nil)), (Rt.v (Tv.one (Lf.int .i64))), fun n a => laws_szRowS n a.1 a.2.1⟩
def S_laws_szRowS_L1 := Sh.of (Sl.one (Lf.sh (.sl (.pair (.int .i64) (.pair (.int .i64) .str)))) (Sl.one (Lf.int .i64) (Sl.gap 3 (Sl.one (Lf.int .i64) (Sl.gap 21 Sl.nil))))) Rw.nil Ls.nil
def T_laws_szRowS (n : Nat) : Tab Int := [([.b, .r, .l, .r, .r, .r], row1 S_laws_szRowS_L1 fun j a => laws_szRowS_L1 n j a.1.1 a.1.2.1 a.1.2.2.1)]
def F_laws_toVal : Fn' ((Int × (Int × ByteArray)) × Unit) (Int × (Int × ByteArray)) := ⟨22, (Tvs.cons (Tv.agg (Ls.cons (Lf.int .i64) (Ls.cons (Lf.int .i64) (Ls.one Lf.str)))) Tvs.nil), (Rt.v (Tv.agg (Ls.cons (Lf.int .i64) (Ls.cons (Lf.int .i64) (Ls.one Lf.str))))), fun n a => laws_toVal n a.1.1 a.1.2.1 a.1.2.2⟩
def F_laws_toValS : Fn' ((List (Int × (Int × ByteArray))) × Unit) (List (Int × (Int × ByteArray))) := ⟨17, (Tvs.cons (Tv.one (Lf.sh (.pair (.int .i64) (.pair (.int .i64) .str)))) Tvs.nil), (Rt.v (Tv.one (Lf.od (.pair (.int .i64) (.pair (.int .i64) .str))))), fun n a => laws_toValS n a.1⟩
def S_laws_toValS_L1 := Sh.of (Sl.one (Lf.sh (.pair (.int .i64) (.pair (.int .i64) .str))) (Sl.gap 2 (Sl.k (Kf.ow 232) (Sl.one (Lf.int .i64) (Sl.gap 18 Sl.nil))))) (Rw.data 232 (.pair (.int .i64) (.pair (.int .i64) .str)) Rw.nil) Ls.nil
def T_laws_toValS (n : Nat) : Tab (List (Int × (Int × ByteArray))) := [([.b, .r, .l, .r, .r], row1 S_laws_toValS_L1 fun j a => laws_toValS_L1 n j a.1.1 a.1.2.1 a.2.1)]
def F_laws_toRow : Fn' ((List (Int × (Int × ByteArray))) × Unit) (List (Int × (Int × ByteArray))) := ⟨57, (Tvs.cons (Tv.agg (Ls.one (Lf.sh (.pair (.int .i64) (.pair (.int .i64) .str))))) Tvs.nil), (Rt.v (Tv.agg (Ls.one (Lf.od (.pair (.int .i64) (.pair (.int .i64) .str)))))), fun n a => laws_toRow n a.1⟩
def F_laws_toRowS : Fn' ((List (List (Int × (Int × ByteArray)))) × Unit) (List (List (Int × (Int × ByteArray)))) := ⟨37, (Tvs.cons (Tv.one (Lf.sh (.sl (.pair (.int .i64) (.pair (.int .i64) .str))))) Tvs.nil), (Rt.v (Tv.one (Lf.od (.sl (.pair (.int .i64) (.pair (.int .i64) .str)))))), fun n a => laws_toRowS n a.1⟩
def S_laws_toRowS_L1 := Sh.of (Sl.one (Lf.sh (.sl (.pair (.int .i64) (.pair (.int .i64) .str)))) (Sl.gap 2 (Sl.k (Kf.ow 232) (Sl.one (Lf.int .i64) (Sl.gap 18 Sl.nil))))) (Rw.data 232 (.sl (.pair (.int .i64) (.pair (.int .i64) .str))) Rw.nil) Ls.nil
def T_laws_toRowS (n : Nat) : Tab (List (List (Int × (Int × ByteArray)))) := [([.b, .r, .l, .r, .r], row1 S_laws_toRowS_L1 fun j a => laws_toRowS_L1 n j a.1.1 a.1.2.1 a.2.1)]
def F_spec_l03SameVals : Fn' ((List (Int × (Int × ByteArray))) × ((List (Int × (Int × ByteArray))) × Unit)) Bool := ⟨78, (Tvs.cons (Tv.one (Lf.sh (.pair (.int .i64) (.pair (.int .i64) .str)))) (Tvs.cons (Tv.one (Lf.sh (.pair (.int .i64) (.pair (.int .i64) .str)))) Tvs.nil)), (Rt.v (Tv.one Lf.bool)), fun n a => spec_l03SameVals n a.1 a.2.1⟩
def S_spec_l03SameVals_L1 := Sh.of (Sl.one (Lf.sh (.pair (.int .i64) (.pair (.int .i64) .str))) (Sl.one (Lf.sh (.pair (.int .i64) (.pair (.int .i64) .str))) (Sl.gap 10 (Sl.one (Lf.int .i64) (Sl.one (Lf.int .i64) (Sl.gap 12 Sl.nil)))))) Rw.nil Ls.nil
def T_spec_l03SameVals (n : Nat) : Tab Bool := [([.b, .r, .l, .r, .r], row1 S_spec_l03SameVals_L1 fun j a => spec_l03SameVals_L1 n j a.1.1 a.1.2.1 a.1.2.2.1 a.1.2.2.2.1)]
def F_spec_SameRows : Fn' ((List (List (Int × (Int × ByteArray)))) × ((List (List (Int × (Int × ByteArray)))) × Unit)) Bool := ⟨36, (Tvs.cons (Tv.one (Lf.sh (.sl (.pair (.int .i64) (.pair (.int .i64) .str))))) (Tvs.cons (Tv.one (Lf.sh (.sl (.pair (.int .i64) (.pair (.int .i64) .str))))) Tvs.nil)), (Rt.v (Tv.one Lf.bool)), fun n a => spec_SameRows n a.1 a.2.1⟩
def S_spec_SameRows_L1 := Sh.of (Sl.one (Lf.sh (.sl (.pair (.int .i64) (.pair (.int .i64) .str)))) (Sl.one (Lf.sh (.sl (.pair (.int .i64) (.pair (.int .i64) .str)))) (Sl.gap 10 (Sl.one (Lf.int .i64) (Sl.one (Lf.int .i64) (Sl.gap 15 Sl.nil)))))) Rw.nil Ls.nil
def T_spec_SameRows (n : Nat) : Tab Bool := [([.b, .r, .l, .r, .r], row1 S_spec_SameRows_L1 fun j a => spec_SameRows_L1 n j a.1.1 a.1.2.1 a.1.2.2.1 a.1.2.2.2.1)]
def F_slices_Equal_impl_Val_impl_Val : Fn' ((List (Int × (Int × ByteArray))) × ((List (Int × (Int × ByteArray))) × Unit)) Bool := ⟨81, (Tvs.cons (Tv.one (Lf.sh (.pair (.int .i64) (.pair (.int .i64) .str)))) (Tvs.cons (Tv.one (Lf.sh (.pair (.int .i64) (.pair (.int .i64) .str)))) Tvs.nil)), (Rt.v (Tv.one Lf.bool)), fun n a => slices_Equal_impl_Val_impl_Val n a.1 a.2.1⟩
def S_slices_Equal_impl_Val_impl_Val_L1 := Sh.of (Sl.one (Lf.sh (.pair (.int .i64) (.pair (.int .i64) .str))) (Sl.one (Lf.sh (.pair (.int .i64) (.pair (.int .i64) .str))) (Sl.gap 10 (Sl.one (Lf.int .i64) (Sl.one (Lf.int .i64) (Sl.gap 12 Sl.nil)))))) Rw.nil Ls.nil
def T_slices_Equal_impl_Val_impl_Val (n : Nat) : Tab Bool := [([.b, .r, .l, .r, .r], row1 S_slices_Equal_impl_Val_impl_Val_L1 fun j a => slices_Equal_impl_Val_impl_Val_L1 n j a.1.1 a.1.2.1 a.1.2.2.1 a.1.2.2.2.1)]
def F_impl_SameRows_1 : Fn' ((List (Int × (Int × ByteArray))) × ((List (Int × (Int × ByteArray))) × Unit)) Bool := ⟨80, (Tvs.cons (Tv.agg (Ls.one (Lf.sh (.pair (.int .i64) (.pair (.int .i64) .str))))) (Tvs.cons (Tv.agg (Ls.one (Lf.sh (.pair (.int .i64) (.pair (.int .i64) .str))))) Tvs.nil)), (Rt.v (Tv.one Lf.bool)), fun n a => impl_SameRows_1 n a.1 a.2.1⟩
def F_slices_EqualFunc_impl_Row_impl_Row_impl_Row_impl_Row__impl_SameRows_1 : Fn' ((List (List (Int × (Int × ByteArray)))) × ((List (List (Int × (Int × ByteArray)))) × (Unit × Unit))) Bool := ⟨79, (Tvs.cons (Tv.one (Lf.sh (.sl (.pair (.int .i64) (.pair (.int .i64) .str))))) (Tvs.cons (Tv.one (Lf.sh (.sl (.pair (.int .i64) (.pair (.int .i64) .str))))) (Tvs.cons (Tv.one (Lf.clo 80 Cs.nil)) Tvs.nil))), (Rt.v (Tv.one Lf.bool)), fun n a => slices_EqualFunc_impl_Row_impl_Row_impl_Row_impl_Row__impl_SameRows_1 n a.1 a.2.1⟩
def S_slices_EqualFunc_impl_Row_impl_Row_impl_Row_impl_Row__impl_SameRows_1_L1 := Sh.of (Sl.gap 1 (Sl.one (Lf.sh (.sl (.pair (.int .i64) (.pair (.int .i64) .str)))) (Sl.one (Lf.clo 80 Cs.nil) (Sl.gap 12 (Sl.one (Lf.sh (.sl (.pair (.int .i64) (.pair (.int .i64) .str)))) (Sl.one (Lf.int .i64) (Sl.one (Lf.int .i64) (Sl.gap 14 Sl.nil)))))))) Rw.nil Ls.nil
def T_slices_EqualFunc_impl_Row_impl_Row_impl_Row_impl_Row__impl_SameRows_1 (n : Nat) : Tab Bool := [([.b, .r, .l, .r, .r], row1 S_slices_EqualFunc_impl_Row_impl_Row_impl_Row_impl_Row__impl_SameRows_1_L1 fun j a => slices_EqualFunc_impl_Row_impl_Row_impl_Row_impl_Row__impl_SameRows_1_L1 n j a.1.1 a.1.2.2.1 a.1.2.2.2.1 a.1.2.2.2.2.1)]
def F_impl_SameRows : Fn' ((List (List (Int × (Int × ByteArray)))) × ((List (List (Int × (Int × ByteArray)))) × Unit)) Bool := ⟨38, (Tvs.cons (Tv.one (Lf.sh (.sl (.pair (.int .i64) (.pair (.int .i64) .str))))) (Tvs.cons (Tv.one (Lf.sh (.sl (.pair (.int .i64) (.pair (.int .i64) .str))))) Tvs.nil)), (Rt.v (Tv.one Lf.bool)), fun n a => impl_SameRows n a.1 a.2.1⟩
def F_laws_eqVal : Fn' ((Int × (Int × ByteArray)) × ((Int × (Int × ByteArray)) × Unit)) Bool := ⟨47, (Tvs.cons (Tv.agg (Ls.cons (Lf.int .i64) (Ls.cons (Lf.int .i64) (Ls.one Lf.str)))) (Tvs.cons (Tv.agg (Ls.cons (Lf.int .i64) (Ls.cons (Lf.int .i64) (Ls.one Lf.str)))) Tvs.nil)), (Rt.v (Tv.one Lf.bool)), fun n a => laws_eqVal n a.1.1 a.1.2.1 a.1.2.2 a.2.1.1 a.2.1.2.1 a.2.1.2.2⟩
def F_laws_eqValS : Fn' ((List (Int × (Int × ByteArray))) × ((List (Int × (Int × ByteArray))) × Unit)) Bool := ⟨19, (Tvs.cons (Tv.one (Lf.sh (.pair (.int .i64) (.pair (.int .i64) .str)))) (Tvs.cons (Tv.one (Lf.sh (.pair (.int .i64) (.pair (.int .i64) .str)))) Tvs.nil)), (Rt.v (Tv.one Lf.bool)), fun n a => laws_eqValS n a.1 a.2.1⟩
def S_laws_eqValS_L1 := Sh.of (Sl.one (Lf.sh (.pair (.int .i64) (.pair (.int .i64) .str))) (Sl.one (Lf.sh (.pair (.int .i64) (.pair (.int .i64) .str))) (Sl.gap 3 (Sl.one (Lf.int .i64) (Sl.gap 21 Sl.nil))))) Rw.nil Ls.nil
def T_laws_eqValS (n : Nat) : Tab Bool := [([.b, .r, .l, .r, .r], row1 S_laws_eqValS_L1 fun j a => laws_eqValS_L1 n j a.1.1 a.1.2.1 a.1.2.2.1)]
def F_laws_eqRow : Fn' ((List (Int × (Int × ByteArray))) × ((List (Int × (Int × ByteArray))) × Unit)) Bool := ⟨59, (Tvs.cons (Tv.agg (Ls.one (Lf.sh (.pair (.int .i64) (.pair (.int .i64) .str))))) (Tvs.cons (Tv.agg (Ls.one (Lf.sh (.pair (.int .i64) (.pair (.int .i64) .str))))) Tvs.nil)), (Rt.v (Tv.one Lf.bool)), fun n a => laws_eqRow n a.1 a.2.1⟩
def F_laws_eqRowS : Fn' ((List (List (Int × (Int × ByteArray)))) × ((List (List (Int × (Int × ByteArray)))) × Unit)) Bool := ⟨39, (Tvs.cons (Tv.one (Lf.sh (.sl (.pair (.int .i64) (.pair (.int .i64) .str))))) (Tvs.cons (Tv.one (Lf.sh (.sl (.pair (.int .i64) (.pair (.int .i64) .str))))) Tvs.nil)), (Rt.v (Tv.one Lf.bool)), fun n a => laws_eqRowS n a.1 a.2.1⟩
def S_laws_eqRowS_L1 := Sh.of (Sl.one (Lf.sh (.sl (.pair (.int .i64) (.pair (.int .i64) .str)))) (Sl.one (Lf.sh (.sl (.pair (.int .i64) (.pair (.int .i64) .str)))) (Sl.gap 3 (Sl.one (Lf.int .i64) (Sl.gap 21 Sl.nil))))) Rw.nil Ls.nil
def T_laws_eqRowS (n : Nat) : Tab Bool := [([.b, .r, .l, .r, .r], row1 S_laws_eqRowS_L1 fun j a => laws_eqRowS_L1 n j a.1.1 a.1.2.1 a.1.2.2.1)]
def F_laws_FnExactSameRows : Fn' ((List (List (Int × (Int × ByteArray)))) × ((List (List (Int × (Int × ByteArray)))) × Unit)) Bool := ⟨7, (Tvs.cons (Tv.one (Lf.sh (.sl (.pair (.int .i64) (.pair (.int .i64) .str))))) (Tvs.cons (Tv.one (Lf.sh (.sl (.pair (.int .i64) (.pair (.int .i64) .str))))) Tvs.nil)), (Rt.v (Tv.one Lf.bool)), fun n a => laws_FnExactSameRows n a.1 a.2.1⟩
def ents : List Ent := [entOf F_laws_szVal, entOf F_laws_szValS, entOf F_laws_szRow, entOf F_laws_szRowS, entOf F_laws_toVal, entOf F_laws_toValS, entOf F_laws_toRow, entOf F_laws_toRowS, entOf F_spec_l03SameVals, entOf F_spec_SameRows, entOf F_slices_Equal_impl_Val_impl_Val, entOf F_impl_SameRows_1, entOf F_slices_EqualFunc_impl_Row_impl_Row_impl_Row_impl_Row__impl_SameRows_1, entOf F_impl_SameRows, entOf F_laws_eqVal, entOf F_laws_eqValS, entOf F_laws_eqRow, entOf F_laws_eqRowS, entOf F_laws_FnExactSameRows]
def callC (n : Nat) : CF := chain ents n
theorem eq_laws_szVal (n : Nat) (a) : evalBodyU env (callC n) n F_laws_szVal.g [] (F_laws_szVal.args.to a) F_laws_szVal.ret.un = F_laws_szVal.run (n + 1) a := by kernel_rfl
theorem eq_laws_szValS (n : Nat) (a) : evalBodyU env (callC n) n F_laws_szValS.g (T_laws_szValS n) (F_laws_szValS.args.to a) F_laws_szValS.ret.un = F_laws_szValS.run (n + 1) a := by kernel_rfl
theorem tab_laws_szValS (n : Nat) : TabOk env (callC n) n F_laws_szValS.g (T_laws_szValS n) F_laws_szValS.ret.un := tabOk (List.forall_mem_cons.mpr ⟨row1_ok (fun _ => rfl) (fun _ _ => by kernel_rfl), List.forall_mem_nil _⟩)
theorem eq_laws_szRow (n : Nat) (a) : evalBodyU env (callC n) n F_laws_szRow.g [] (F_laws_szRow.args.to a) F_laws_szRow.ret.un = F_laws_szRow.run (n + 1) a := by kernel_rfl
theorem eq_laws_szRowS (n : Nat) (a) : evalBodyU env (callC n) n F_laws_szRowS.g (T_laws_szRowS n) (F_laws_szRowS.args.to a) F_laws_szRowS.ret.un = F_laws_szRowS.run (n + 1) a := by kernel_rfl
theorem tab_laws_szRowS (n : Nat) : TabOk env (callC n) n F_laws_szRowS.g (T_laws_szRowS n) F_laws_szRowS.ret.un := tabOk (List.forall_mem_cons.mpr ⟨row1_ok (fun _ => rfl) (fun _ _ => by kernel_rfl), List.forall_mem_nil _⟩)
theorem eq_laws_toVal (n : Nat) (a) : evalBodyU env (callC n) n F_laws_toVal.g [] (F_laws_toVal.args.to a) F_laws_toVal.ret.un = F_laws_toVal.run (n + 1) a := by kernel_rfl
theorem eq_laws_toValS (n : Nat) (a) : evalBodyU env (callC n) n F_laws_toValS.g (T_laws_toValS n) (F_laws_toValS.args.to a) F_laws_toValS.ret.un = F_laws_toValS.run (n + 1) a := by kernel_rfl
theorem tab_laws_toValS (n : Nat) : TabOk env (callC n) n F_laws_toValS.g (T_laws_toValS n) F_laws_toValS.ret.un := tabOk (List.forall_mem_cons.mpr ⟨row1_ok (fun _ => rfl) (fun _ _ => by kernel_rfl), List.forall_mem_nil _⟩)
theorem eq_laws_toRow (n : Nat) (a) : evalBodyU env (callC n) n F_laws_toRow.g [] (F_laws_toRow.args.to a) F_laws_toRow.ret.un = F_laws_toRow.run (n + 1) a := by kernel_rfl
theorem eq_laws_toRowS (n : Nat) (a) : evalBodyU env (callC n) n F_laws_toRowS.g (T_laws_toRowS n) (F_laws_toRowS.args.to a) F_laws_toRowS.ret.un = F_laws_toRowS.run (n + 1) a := by kernel_rfl
theorem tab_laws_toRowS (n : Nat) : TabOk env (callC n) n F_laws_toRowS.g (T_laws_toRowS n) F_laws_toRowS.ret.un := tabOk (List.forall_mem_cons.mpr ⟨row1_ok (fun _ => rfl) (fun _ _ => by kernel_rfl), List.forall_mem_nil _⟩)
theorem eq_spec_l03SameVals (n : Nat) (a) : evalBodyU env (callC n) n F_spec_l03SameVals.g (T_spec_l03SameVals n) (F_spec_l03SameVals.args.to a) F_spec_l03SameVals.ret.un = F_spec_l03SameVals.run (n + 1) a := by kernel_rfl
theorem tab_spec_l03SameVals (n : Nat) : TabOk env (callC n) n F_spec_l03SameVals.g (T_spec_l03SameVals n) F_spec_l03SameVals.ret.un := tabOk (List.forall_mem_cons.mpr ⟨row1_ok (fun _ => rfl) (fun _ _ => by kernel_rfl), List.forall_mem_nil _⟩)
theorem eq_spec_SameRows (n : Nat) (a) : evalBodyU env (callC n) n F_spec_SameRows.g (T_spec_SameRows n) (F_spec_SameRows.args.to a) F_spec_SameRows.ret.un = F_spec_SameRows.run (n + 1) a := by kernel_rfl
theorem tab_spec_SameRows (n : Nat) : TabOk env (callC n) n F_spec_SameRows.g (T_spec_SameRows n) F_spec_SameRows.ret.un := tabOk (List.forall_mem_cons.mpr ⟨row1_ok (fun _ => rfl) (fun _ _ => by kernel_rfl), List.forall_mem_nil _⟩)
theorem eq_slices_Equal_impl_Val_impl_Val (n : Nat) (a) : evalBodyU env (callC n) n F_slices_Equal_impl_Val_impl_Val.g (T_slices_Equal_impl_Val_impl_Val n) (F_slices_Equal_impl_Val_impl_Val.args.to a) F_slices_Equal_impl_Val_impl_Val.ret.un = F_slices_Equal_impl_Val_impl_Val.run (n + 1) a := by kernel_rfl
theorem tab_slices_Equal_impl_Val_impl_Val (n : Nat) : TabOk env (callC n) n F_slices_Equal_impl_Val_impl_Val.g (T_slices_Equal_impl_Val_impl_Val n) F_slices_Equal_impl_Val_impl_Val.ret.un := tabOk (List.forall_mem_cons.mpr ⟨row1_ok (fun _ => rfl) (fun _ _ => by kernel_rfl), List.forall_mem_nil _⟩)
theorem eq_impl_SameRows_1 (n : Nat) (a) : evalBodyU env (callC n) n F_impl_SameRows_1.g [] (F_impl_SameRows_1.args.to a) F_impl_SameRows_1.ret.un = F_impl_SameRows_1.run (n + 1) a := by kernel_rfl
theorem eq_slices_EqualFunc_impl_Row_impl_Row_impl_Row_impl_Row__impl_SameRows_1 (n : Nat) (a) : evalBodyU env (callC n) n F_slices_EqualFunc_impl_Row_impl_Row_impl_Row_impl_Row__impl_SameRows_1.g (T_slices_EqualFunc_impl_Row_impl_Row_impl_Row_impl_Row__impl_SameRows_1 n) (F_slices_EqualFunc_impl_Row_impl_Row_impl_Row_impl_Row__impl_SameRows_1.args.to a) F_slices_EqualFunc_impl_Row_impl_Row_impl_Row_impl_Row__impl_SameRows_1.ret.un = F_slices_EqualFunc_impl_Row_impl_Row_impl_Row_impl_Row__impl_SameRows_1.run (n + 1) a := by kernel_rfl
theorem tab_slices_EqualFunc_impl_Row_impl_Row_impl_Row_impl_Row__impl_SameRows_1 (n : Nat) : TabOk env (callC n) n F_slices_EqualFunc_impl_Row_impl_Row_impl_Row_impl_Row__impl_SameRows_1.g (T_slices_EqualFunc_impl_Row_impl_Row_impl_Row_impl_Row__impl_SameRows_1 n) F_slices_EqualFunc_impl_Row_impl_Row_impl_Row_impl_Row__impl_SameRows_1.ret.un := tabOk (List.forall_mem_cons.mpr ⟨row1_ok (fun _ => rfl) (fun _ _ => by kernel_rfl), List.forall_mem_nil _⟩)
theorem eq_impl_SameRows (n : Nat) (a) : evalBodyU env (callC n) n F_impl_SameRows.g [] (F_impl_SameRows.args.to a) F_impl_SameRows.ret.un = F_impl_SameRows.run (n + 1) a := by kernel_rfl
theorem eq_laws_eqVal (n : Nat) (a) : evalBodyU env (callC n) n F_laws_eqVal.g [] (F_laws_eqVal.args.to a) F_laws_eqVal.ret.un = F_laws_eqVal.run (n + 1) a := by kernel_rfl
theorem eq_laws_eqValS (n : Nat) (a) : evalBodyU env (callC n) n F_laws_eqValS.g (T_laws_eqValS n) (F_laws_eqValS.args.to a) F_laws_eqValS.ret.un = F_laws_eqValS.run (n + 1) a := by kernel_rfl
theorem tab_laws_eqValS (n : Nat) : TabOk env (callC n) n F_laws_eqValS.g (T_laws_eqValS n) F_laws_eqValS.ret.un := tabOk (List.forall_mem_cons.mpr ⟨row1_ok (fun _ => rfl) (fun _ _ => by kernel_rfl), List.forall_mem_nil _⟩)
theorem eq_laws_eqRow (n : Nat) (a) : evalBodyU env (callC n) n F_laws_eqRow.g [] (F_laws_eqRow.args.to a) F_laws_eqRow.ret.un = F_laws_eqRow.run (n + 1) a := by kernel_rfl
theorem eq_laws_eqRowS (n : Nat) (a) : evalBodyU env (callC n) n F_laws_eqRowS.g (T_laws_eqRowS n) (F_laws_eqRowS.args.to a) F_laws_eqRowS.ret.un = F_laws_eqRowS.run (n + 1) a := by kernel_rfl
theorem tab_laws_eqRowS (n : Nat) : TabOk env (callC n) n F_laws_eqRowS.g (T_laws_eqRowS n) F_laws_eqRowS.ret.un := tabOk (List.forall_mem_cons.mpr ⟨row1_ok (fun _ => rfl) (fun _ _ => by kernel_rfl), List.forall_mem_nil _⟩)
theorem eq_laws_FnExactSameRows (n : Nat) (a) : evalBodyU env (callC n) n F_laws_FnExactSameRows.g [] (F_laws_FnExactSameRows.args.to a) F_laws_FnExactSameRows.ret.un = F_laws_FnExactSameRows.run (n + 1) a := by kernel_rfl
structure AllOk (n : Nat) : Prop where
  o_laws_szVal : FnOk Try.prog F_laws_szVal n
  o_laws_szValS : FnOk Try.prog F_laws_szValS n
  o_laws_szRow : FnOk Try.prog F_laws_szRow n
  o_laws_szRowS : FnOk Try.prog F_laws_szRowS n
  o_laws_toVal : FnOk Try.prog F_laws_toVal n
  o_laws_toValS : FnOk Try.prog F_laws_toValS n
  o_laws_toRow : FnOk Try.prog F_laws_toRow n
  o_laws_toRowS : FnOk Try.prog F_laws_toRowS n
  o_spec_l03SameVals : FnOk Try.prog F_spec_l03SameVals n
  o_spec_SameRows : FnOk Try.prog F_spec_SameRows n
  o_slices_Equal_impl_Val_impl_Val : FnOk Try.prog F_slices_Equal_impl_Val_impl_Val n
  o_impl_SameRows_1 : FnOk Try.prog F_impl_SameRows_1 n
  o_slices_EqualFunc_impl_Row_impl_Row_impl_Row_impl_Row__impl_SameRows_1 : FnOk Try.prog F_slices_EqualFunc_impl_Row_impl_Row_impl_Row_impl_Row__impl_SameRows_1 n
  o_impl_SameRows : FnOk Try.prog F_impl_SameRows n
  o_laws_eqVal : FnOk Try.prog F_laws_eqVal n
  o_laws_eqValS : FnOk Try.prog F_laws_eqValS n
  o_laws_eqRow : FnOk Try.prog F_laws_eqRow n
  o_laws_eqRowS : FnOk Try.prog F_laws_eqRowS n
  o_laws_FnExactSameRows : FnOk Try.prog F_laws_FnExactSameRows n
theorem calls_ok {n : Nat} (h : AllOk n) : CFok Try.prog (callC n) := chain_ok (by
  simp only [ents, List.forall_mem_cons, List.not_mem_nil, false_implies, implies_true, and_true]
  exact ⟨entOk_of h.o_laws_szVal, entOk_of h.o_laws_szValS, entOk_of h.o_laws_szRow, entOk_of h.o_laws_szRowS, entOk_of h.o_laws_toVal, entOk_of h.o_laws_toValS, entOk_of h.o_laws_toRow, entOk_of h.o_laws_toRowS, entOk_of h.o_spec_l03SameVals, entOk_of h.o_spec_SameRows, entOk_of h.o_slices_Equal_impl_Val_impl_Val, entOk_of h.o_impl_SameRows_1, entOk_of h.o_slices_EqualFunc_impl_Row_impl_Row_impl_Row_impl_Row__impl_SameRows_1, entOk_of h.o_impl_SameRows, entOk_of h.o_laws_eqVal, entOk_of h.o_laws_eqValS, entOk_of h.o_laws_eqRow, entOk_of h.o_laws_eqRowS, entOk_of h.o_laws_FnExactSameRows⟩)
theorem calls_det (n : Nat) : CFdet (callC n) := chain_det (by
  simp only [ents, List.forall_mem_cons, List.not_mem_nil, false_implies, implies_true, and_true]
  exact ⟨entDet F_laws_szVal, entDet F_laws_szValS, entDet F_laws_szRow, entDet F_laws_szRowS, entDet F_laws_toVal, entDet F_laws_toValS, entDet F_laws_toRow, entDet F_laws_toRowS, entDet F_spec_l03SameVals, entDet F_spec_SameRows, entDet F_slices_Equal_impl_Val_impl_Val, entDet F_impl_SameRows_1, entDet F_slices_EqualFunc_impl_Row_impl_Row_impl_Row_impl_Row__impl_SameRows_1, entDet F_impl_SameRows, entDet F_laws_eqVal, entDet F_laws_eqValS, entDet F_laws_eqRow, entDet F_laws_eqRowS, entDet F_laws_FnExactSameRows⟩)
theorem all_ok : ∀ n, AllOk n
  | 0 => ⟨fnOk_zero fun a => rfl, fnOk_zero fun a => rfl, fnOk_zero fun a => rfl, fnOk_zero fun a => rfl, fnOk_zero fun a => rfl, fnOk_zero fun a => rfl, fnOk_zero fun a => rfl, fnOk_zero fun a => rfl, fnOk_zero fun a => rfl, fnOk_zero fun a => rfl, fnOk_zero fun a => rfl, fnOk_zero fun a => rfl, fnOk_zero fun a => rfl, fnOk_zero fun a => rfl, fnOk_zero fun a => rfl, fnOk_zero fun a => rfl, fnOk_zero fun a => rfl, fnOk_zero fun a => rfl, fnOk_zero fun a => rfl⟩
  | n + 1 => ⟨fnOk_succ envOk eqsOk (calls_ok (all_ok n)) (calls_det n) tabOk_nil (eq_laws_szVal n), fnOk_succ envOk eqsOk (calls_ok (all_ok n)) (calls_det n) (tab_laws_szValS n) (eq_laws_szValS n), fnOk_succ envOk eqsOk (calls_ok (all_ok n)) (calls_det n) tabOk_nil (eq_laws_szRow n), fnOk_succ envOk eqsOk (calls_ok (all_ok n)) (calls_det n) (tab_laws_szRowS n) (eq_laws_szRowS n), fnOk_succ envOk eqsOk (calls_ok (all_ok n)) (calls_det n) tabOk_nil (eq_laws_toVal n), fnOk_succ envOk eqsOk (calls_ok (all_ok n)) (calls_det n) (tab_laws_toValS n) (eq_laws_toValS n), fnOk_succ envOk eqsOk (calls_ok (all_ok n)) (calls_det n) tabOk_nil (eq_laws_toRow n), fnOk_succ envOk eqsOk (calls_ok (all_ok n)) (calls_det n) (tab_laws_toRowS n) (eq_laws_toRowS n), fnOk_succ envOk eqsOk (calls_ok (all_ok n)) (calls_det n) (tab_spec_l03SameVals n) (eq_spec_l03SameVals n), fnOk_succ envOk eqsOk (calls_ok (all_ok n)) (calls_det n) (tab_spec_SameRows n) (eq_spec_SameRows n), fnOk_succ envOk eqsOk (calls_ok (all_ok n)) (calls_det n) (tab_slices_Equal_impl_Val_impl_Val n) (eq_slices_Equal_impl_Val_impl_Val n), fnOk_succ envOk eqsOk (calls_ok (all_ok n)) (calls_det n) tabOk_nil (eq_impl_SameRows_1 n), fnOk_succ envOk eqsOk (calls_ok (all_ok n)) (calls_det n) (tab_slices_EqualFunc_impl_Row_impl_Row_impl_Row_impl_Row__impl_SameRows_1 n) (eq_slices_EqualFunc_impl_Row_impl_Row_impl_Row_impl_Row__impl_SameRows_1 n), fnOk_succ envOk eqsOk (calls_ok (all_ok n)) (calls_det n) tabOk_nil (eq_impl_SameRows n), fnOk_succ envOk eqsOk (calls_ok (all_ok n)) (calls_det n) tabOk_nil (eq_laws_eqVal n), fnOk_succ envOk eqsOk (calls_ok (all_ok n)) (calls_det n) (tab_laws_eqValS n) (eq_laws_eqValS n), fnOk_succ envOk eqsOk (calls_ok (all_ok n)) (calls_det n) tabOk_nil (eq_laws_eqRow n), fnOk_succ envOk eqsOk (calls_ok (all_ok n)) (calls_det n) (tab_laws_eqRowS n) (eq_laws_eqRowS n), fnOk_succ envOk eqsOk (calls_ok (all_ok n)) (calls_det n) tabOk_nil (eq_laws_FnExactSameRows n)⟩
end Go.Proofs.Ythfkolhjnioblaa.Ev

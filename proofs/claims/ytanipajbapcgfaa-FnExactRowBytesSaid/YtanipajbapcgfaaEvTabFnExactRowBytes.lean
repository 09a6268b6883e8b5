/- The tables of the law FnExactRowBytes: what the evaluator makes of the program is these functions. -/
import Derived.Test.YtanipajbapcgfaaEvFnFnExactRowBytes
import Derived.Test.YtanipajbapcgfaaEvHead
import Derived.Test.YtanipajbapcgfaaEvEq
import Derived.Test.YtanipajbapcgfaaChecked
set_option linter.all false
namespace Go.Proofs.Ytanipajbapcgfaa.Ev
open Go Go.Proofs
def bytesT : List (Kd × Nat) := [((.pair (.int .i64) (.pair (.int .i64) .str)), 32)]
def bytesOf (f : Kd) : Nat := ((bytesT.find? fun p => decide (p.1 = f)).map (·.2)).getD 1
theorem bytes_pos (f : Kd) : 1 ≤ bytesOf f := by
  unfold bytesOf
  cases h : bytesT.find? fun p => decide (p.1 = f) with
  | none => exact Nat.le_refl _
  | some p =>
    have hp : ∀ q ∈ bytesT, 1 ≤ q.2 := by decide
    exact hp p (List.mem_of_find?_eq_some h)
noncomputable def env : Env := ⟨[(3, ⟨1, 0, false, [], (.int .i64)⟩),
  (4, ⟨1, 0, false, [], .bool⟩),
  (5, ⟨1, 0, false, [], (.int .u8)⟩),
  (9, ⟨1, 0, false, [], .str⟩),
  (27, ⟨1, 1, false, [], (.sl (.int .u8))⟩),
  (33, ⟨3, 0, true, [(0, 1), (1, 1), (2, 1)], (.pair (.int .i64) (.pair (.int .i64) .str))⟩),
  (36, ⟨3, 0, true, [(0, 1), (1, 1), (2, 1)], (.pair (.int .i64) (.pair (.int .i64) .str))⟩),
  (39, ⟨1, 32, false, [], (.sl (.pair (.int .i64) (.pair (.int .i64) .str)))⟩),
  (42, ⟨1, 32, false, [], (.sl (.pair (.int .i64) (.pair (.int .i64) .str)))⟩)],
  [(6, Try.f6), (22, Try.f22), (23, Try.f23), (24, Try.f24), (25, Try.f25), (26, Try.f26), (27, Try.f27), (29, Try.f29), (30, Try.f30), (31, Try.f31), (32, Try.f32), (33, Try.f33), (34, Try.f34), (64, Try.f64), (73, Try.f73), (88, Try.f88), (91, Try.f91), (92, Try.f92), (93, Try.f93), (94, Try.f94), (95, Try.f95), (129, Try.f129), (130, Try.f130), (136, Try.f136), (157, Try.f157), (158, Try.f158)], [(23, ⟨[.io], true⟩), (34, ⟨[.io], true⟩), (91, ⟨[.give], true⟩), (93, ⟨[.give], true⟩), (94, ⟨[.give], true⟩), (157, ⟨[.give], true⟩), (158, ⟨[.give], true⟩)], [(22, [(4, ⟨35, []⟩)]), (23, [(2, ⟨35, []⟩)]), (24, [(2, ⟨35, []⟩)]), (29, [(5, ⟨35, []⟩)]), (30, [(5, ⟨458768, []⟩)]), (31, [(3, ⟨25, []⟩)]), (32, [(2, ⟨449, []⟩)]), (33, [(4, ⟨35, []⟩)]), (34, [(2, ⟨35, []⟩)]), (64, [(5, ⟨770, []⟩)]), (88, [(4, ⟨9, []⟩)]), (94, [(3, ⟨14337, []⟩)]), (129, [(3, ⟨25, []⟩)]), (157, [(2, ⟨131, []⟩)])], [36]⟩
theorem envOk : EnvOk Try.prog env := envOk_of (by kernel_rfl) (by
  simp only [env, List.forall_mem_cons, List.not_mem_nil, false_implies, implies_true, and_true]
  exact ⟨⟨Try.func6, by kernel_rfl⟩, ⟨Try.func22, by kernel_rfl⟩, ⟨Try.func23, by kernel_rfl⟩, ⟨Try.func24, by kernel_rfl⟩, ⟨Try.func25, by kernel_rfl⟩, ⟨Try.func26, by kernel_rfl⟩, ⟨Try.func27, by kernel_rfl⟩, ⟨Try.func29, by kernel_rfl⟩, ⟨Try.func30, by kernel_rfl⟩, ⟨Try.func31, by kernel_rfl⟩, ⟨Try.func32, by kernel_rfl⟩, ⟨Try.func33, by kernel_rfl⟩, ⟨Try.func34, by kernel_rfl⟩, ⟨Try.func64, by kernel_rfl⟩, ⟨Try.func73, by kernel_rfl⟩, ⟨Try.func88, by kernel_rfl⟩, ⟨Try.func91, by kernel_rfl⟩, ⟨Try.func92, by kernel_rfl⟩, ⟨Try.func93, by kernel_rfl⟩, ⟨Try.func94, by kernel_rfl⟩, ⟨Try.func95, by kernel_rfl⟩, ⟨Try.func129, by kernel_rfl⟩, ⟨Try.func130, by kernel_rfl⟩, ⟨Try.func136, by kernel_rfl⟩, ⟨Try.func157, by kernel_rfl⟩, ⟨Try.func158, by kernel_rfl⟩⟩) (by kernel_rfl)
theorem eqsOk : EqsOk Try.prog env := eqsOk_of (by kernel_rfl)
def F_laws_szVal : Fn' ((Int × (Int × ByteArray)) × (Int × Unit)) Int := ⟨25, (Tvs.cons (Tv.agg (Ls.cons (Lf.int .i64) (Ls.cons (Lf.int .i64) (Ls.one Lf.str)))) (Tvs.cons (Tv.one (Lf.int .i64)) Tvs.nil)), (Rt.v (Tv.one (Lf.int .i64))), fun n a => laws_szVal n a.1.1 a.1.2.1 a.1.2.2 a.2.1⟩
def F_laws_szValS : Fn' ((List (Int × (Int × ByteArray))) × (Int × Unit)) Int := ⟨29, (Tvs.cons (Tv.one (Lf.sh (.pair (.int .i64) (.pair (.int .i64) .str)))) (Tvs.cons (Tv.one (Lf.int .i64)) Tvs.nil)), (Rt.v (Tv.one (Lf.int .i64))), fun n a => laws_szValS n a.1 a.2.1⟩
def S_laws_szValS_L1 := Sh.of (Sl.one (Lf.sh (.pair (.int .i64) (.pair (.int .i64) .str))) (Sl.one (Lf.int .i64) (Sl.gap 3 (Sl.one (Lf.int .i64) (Sl.gap 21 Sl.nil))))) Rw.nil Ls.nil
def T_laws_szValS (n : Nat) : Tab Int := [([.b, .r, .l, .r, .r, .r], row1 S_laws_szValS_L1 fun j a => laws_szValS_L1 n j a.1.1 a.1.2.1 a.1.2.2.1)]
def F_laws_toVal : Fn' ((Int × (Int × ByteArray)) × Unit) (Int × (Int × ByteArray)) := ⟨27, (Tvs.cons (Tv.agg (Ls.cons (Lf.int .i64) (Ls.cons (Lf.int .i64) (Ls.one Lf.str)))) Tvs.nil), (Rt.v (Tv.agg (Ls.cons (Lf.int .i64) (Ls.cons (Lf.int .i64) (Ls.one Lf.str))))), fun n a => laws_toVal n a.1.1 a.1.2.1 a.1.2.2⟩
def F_laws_toValS : Fn' ((List (Int × (Int × ByteArray))) × Unit) (List (Int × (Int × ByteArray))) := ⟨31, (Tvs.cons (Tv.one (Lf.sh (.pair (.int .i64) (.pair (.int .i64) .str)))) Tvs.nil), (Rt.v (Tv.one (Lf.od (.pair (.int .i64) (.pair (.int .i64) .str))))), fun n a => laws_toValS n a.1⟩
def S_laws_toValS_L1 := Sh.of (Sl.one (Lf.sh (.pair (.int .i64) (.pair (.int .i64) .str))) (Sl.gap 2 (Sl.k (Kf.ow 232) (Sl.one (Lf.int .i64) (Sl.gap 18 Sl.nil))))) (Rw.data 232 (.pair (.int .i64) (.pair (.int .i64) .str)) Rw.nil) Ls.nil
def T_laws_toValS (n : Nat) : Tab (List (Int × (Int × ByteArray))) := [([.b, .r, .l, .r, .r], row1 S_laws_toValS_L1 fun j a => laws_toValS_L1 n j a.1.1 a.1.2.1 a.2.1)]
def F_spec_l01Num : Fn' (Int × Unit) Bool := ⟨136, (Tvs.cons (Tv.one (Lf.int .i64)) Tvs.nil), (Rt.v (Tv.one Lf.bool)), fun n a => spec_l01Num n a.1⟩
def F_spec_ValOk : Fn' ((Int × (Int × ByteArray)) × Unit) Bool := ⟨73, (Tvs.cons (Tv.agg (Ls.cons (Lf.int .i64) (Ls.cons (Lf.int .i64) (Ls.one Lf.str)))) Tvs.nil), (Rt.v (Tv.one Lf.bool)), fun n a => spec_ValOk n a.1.1 a.1.2.1 a.1.2.2⟩
def F_spec_l06Pow : Fn' (Int × Unit) Int := ⟨129, (Tvs.cons (Tv.one (Lf.int .i64)) Tvs.nil), (Rt.v (Tv.one (Lf.int .i64))), fun n a => spec_l06Pow n a.1⟩
def S_spec_l06Pow_L1 := Sh.of (Sl.one (Lf.int .i64) (Sl.gap 2 (Sl.one (Lf.int .i64) (Sl.one (Lf.int .i64) (Sl.gap 8 Sl.nil))))) Rw.nil Ls.nil
def T_spec_l06Pow (n : Nat) : Tab Int := [([.b, .r, .l, .r, .r], row1 S_spec_l06Pow_L1 fun j a => spec_l06Pow_L1 n j a.1.1 a.1.2.1 a.1.2.2.1)]
def F_spec_PutNum : Fn' ((List Int) × (Int × (Int × Unit))) ((List Int) × (Bool × Unit)) := ⟨64, (Tvs.cons (Tv.one (Lf.sh (.int .u8))) (Tvs.cons (Tv.one (Lf.int .i64)) (Tvs.cons (Tv.one (Lf.int .i64)) Tvs.nil))), (Rt.tup (Tvs.cons (Tv.one (Lf.od (.int .u8))) (Tvs.cons (Tv.one Lf.bool) Tvs.nil))), fun n a => spec_PutNum n a.1 a.2.1 a.2.2.1⟩
def S_spec_PutNum_L1 := Sh.of (Sl.gap 1 (Sl.one (Lf.int .i64) (Sl.gap 6 (Sl.k (Kf.ow 552) (Sl.one (Lf.int .i64) (Sl.gap 35 Sl.nil)))))) (Rw.data 552 (.int .u8) Rw.nil) Ls.nil
def T_spec_PutNum (n : Nat) : Tab ((List Int) × (Bool × Unit)) := [([.b, .r, .l, .r, .r, .r], row1 S_spec_PutNum_L1 fun j a => spec_PutNum_L1 n j a.1.1 a.1.2.1 a.2.1)]
def F_spec_ValBytes : Fn' ((Int × (Int × ByteArray)) × Unit) ((List Int) × (Bool × Unit)) := ⟨26, (Tvs.cons (Tv.agg (Ls.cons (Lf.int .i64) (Ls.cons (Lf.int .i64) (Ls.one Lf.str)))) Tvs.nil), (Rt.tup (Tvs.cons (Tv.one (Lf.od (.int .u8))) (Tvs.cons (Tv.one Lf.bool) Tvs.nil))), fun n a => spec_ValBytes n a.1.1 a.1.2.1 a.1.2.2⟩
def F_spec_RowBytes : Fn' ((List (Int × (Int × ByteArray))) × Unit) ((List Int) × (Bool × Unit)) := ⟨30, (Tvs.cons (Tv.one (Lf.sh (.pair (.int .i64) (.pair (.int .i64) .str)))) Tvs.nil), (Rt.tup (Tvs.cons (Tv.one (Lf.od (.int .u8))) (Tvs.cons (Tv.one Lf.bool) Tvs.nil))), fun n a => spec_RowBytes n a.1⟩
def S_spec_RowBytes_L1 := Sh.of (Sl.gap 4 (Sl.k (Kf.ow 296) (Sl.gap 11 (Sl.one (Lf.sh (.pair (.int .i64) (.pair (.int .i64) .str))) (Sl.one (Lf.int .i64) (Sl.one (Lf.int .i64) (Sl.gap 15 Sl.nil))))))) (Rw.data 296 (.int .u8) Rw.nil) Ls.nil
def T_spec_RowBytes (n : Nat) : Tab ((List Int) × (Bool × Unit)) := [([.b, .r, .l, .r, .r, .r], row1 S_spec_RowBytes_L1 fun j a => spec_RowBytes_L1 n j a.1.1 a.1.2.1 a.1.2.2.1 a.2.1)]
def F_impl_within : Fn' (Int × (Int × (Int × Unit))) Bool := ⟨130, (Tvs.cons (Tv.one (Lf.int .i64)) (Tvs.cons (Tv.one (Lf.int .i64)) (Tvs.cons (Tv.one (Lf.int .i64)) Tvs.nil))), (Rt.v (Tv.one Lf.bool)), fun n a => impl_within n a.1 a.2.1 a.2.2.1⟩
def F_impl_ValOk : Fn' ((Int × (Int × ByteArray)) × Unit) Bool := ⟨92, (Tvs.cons (Tv.agg (Ls.cons (Lf.int .i64) (Ls.cons (Lf.int .i64) (Ls.one Lf.str)))) Tvs.nil), (Rt.v (Tv.one Lf.bool)), fun n a => impl_ValOk n a.1.1 a.1.2.1 a.1.2.2⟩
def F_impl_num_o : Fn' ((List Int) × (Int × (Int × Unit))) (List Int) := ⟨157, (Tvs.cons (Tv.one (Lf.od (.int .u8))) (Tvs.cons (Tv.one (Lf.int .i64)) (Tvs.cons (Tv.one (Lf.int .i64)) Tvs.nil))), (Rt.v (Tv.one (Lf.od (.int .u8)))), fun n a => impl_num_o n a.1 a.2.1 a.2.2.1⟩
def S_impl_num_o_L1 := Sh.of (Sl.k (Kf.ow 40) (Sl.one (Lf.int .i64) (Sl.gap 5 (Sl.one (Lf.int .i64) (Sl.gap 15 Sl.nil))))) (Rw.data 40 (.int .u8) Rw.nil) Ls.nil
def T_impl_num_o (n : Nat) : Tab (List Int) := [([.b, .r, .l, .r], row1 S_impl_num_o_L1 fun j a => impl_num_o_L1 n j a.1.1 a.1.2.1 a.2.1)]
def F_impl_flag_o : Fn' ((List Int) × (Bool × Unit)) (List Int) := ⟨158, (Tvs.cons (Tv.one (Lf.od (.int .u8))) (Tvs.cons (Tv.one Lf.bool) Tvs.nil)), (Rt.v (Tv.one (Lf.od (.int .u8)))), fun n a => impl_flag_o n a.1 a.2.1⟩
def F_impl_text_o : Fn' ((List Int) × (ByteArray × Unit)) (List Int) := ⟨91, (Tvs.cons (Tv.one (Lf.od (.int .u8))) (Tvs.cons (Tv.one Lf.str) Tvs.nil)), (Rt.v (Tv.one (Lf.od (.int .u8)))), fun n a => impl_text_o n a.1 a.2.1⟩
def F_impl_val_o : Fn' ((List Int) × ((Int × (Int × ByteArray)) × Unit)) (List Int) := ⟨93, (Tvs.cons (Tv.one (Lf.od (.int .u8))) (Tvs.cons (Tv.agg (Ls.cons (Lf.int .i64) (Ls.cons (Lf.int .i64) (Ls.one Lf.str)))) Tvs.nil)), (Rt.v (Tv.one (Lf.od (.int .u8)))), fun n a => impl_val_o n a.1 a.2.1.1 a.2.1.2.1 a.2.1.2.2⟩
def F_impl_vals_o : Fn' ((List Int) × ((List (Int × (Int × ByteArray))) × Unit)) (List Int) := ⟨94, (Tvs.cons (Tv.one (Lf.od (.int .u8))) (Tvs.cons (Tv.one (Lf.sh (.pair (.int .i64) (.pair (.int .i64) .str)))) Tvs.nil)), (Rt.v (Tv.one (Lf.od (.int .u8)))), fun n a => impl_vals_o n a.1 a.2.1⟩
def S_impl_vals_o_L1 := Sh.of (Sl.k (Kf.ow 40) (Sl.gap 10 (Sl.one (Lf.sh (.pair (.int .i64) (.pair (.int .i64) .str))) (Sl.one (Lf.int .i64) (Sl.one (Lf.int .i64) (Sl.gap 8 Sl.nil)))))) (Rw.data 40 (.int .u8) Rw.nil) Ls.nil
def T_impl_vals_o (n : Nat) : Tab (List Int) := [([.b, .r, .l, .r, .r], row1 S_impl_vals_o_L1 fun j a => impl_vals_o_L1 n j a.1.1 a.1.2.1 a.1.2.2.1 a.2.1)]
def F_impl_RowBytes : Fn' ((List (Int × (Int × ByteArray))) × Unit) ((List Int) × (Bool × Unit)) := ⟨32, (Tvs.cons (Tv.one (Lf.sh (.pair (.int .i64) (.pair (.int .i64) .str)))) Tvs.nil), (Rt.tup (Tvs.cons (Tv.one (Lf.od (.int .u8))) (Tvs.cons (Tv.one Lf.bool) Tvs.nil))), fun n a => impl_RowBytes n a.1⟩
def S_impl_RowBytes_L1 := Sh.of (Sl.one (Lf.sh (.pair (.int .i64) (.pair (.int .i64) .str))) (Sl.gap 5 (Sl.one (Lf.sh (.pair (.int .i64) (.pair (.int .i64) .str))) (Sl.one (Lf.int .i64) (Sl.one (Lf.int .i64) (Sl.gap 13 Sl.nil)))))) Rw.nil Ls.nil
def T_impl_RowBytes (n : Nat) : Tab ((List Int) × (Bool × Unit)) := [([.b, .r, .l, .r], row1 S_impl_RowBytes_L1 fun j a => impl_RowBytes_L1 n j a.1.1 a.1.2.1 a.1.2.2.1 a.1.2.2.2.1)]
def F_laws_eqByteS : Fn' ((List Int) × ((List Int) × Unit)) Bool := ⟨22, (Tvs.cons (Tv.one (Lf.sh (.int .u8))) (Tvs.cons (Tv.one (Lf.sh (.int .u8))) Tvs.nil)), (Rt.v (Tv.one Lf.bool)), fun n a => laws_eqByteS n a.1 a.2.1⟩
def S_laws_eqByteS_L1 := Sh.of (Sl.one (Lf.sh (.int .u8)) (Sl.one (Lf.sh (.int .u8)) (Sl.gap 3 (Sl.one (Lf.int .i64) (Sl.gap 20 Sl.nil))))) Rw.nil Ls.nil
def T_laws_eqByteS (n : Nat) : Tab Bool := [([.b, .r, .l, .r, .r], row1 S_laws_eqByteS_L1 fun j a => laws_eqByteS_L1 n j a.1.1 a.1.2.1 a.1.2.2.1)]
def F_laws_eqVal : Fn' ((Int × (Int × ByteArray)) × ((Int × (Int × ByteArray)) × Unit)) Bool := ⟨95, (Tvs.cons (Tv.agg (Ls.cons (Lf.int .i64) (Ls.cons (Lf.int .i64) (Ls.one Lf.str)))) (Tvs.cons (Tv.agg (Ls.cons (Lf.int .i64) (Ls.cons (Lf.int .i64) (Ls.one Lf.str)))) Tvs.nil)), (Rt.v (Tv.one Lf.bool)), fun n a => laws_eqVal n a.1.1 a.1.2.1 a.1.2.2 a.2.1.1 a.2.1.2.1 a.2.1.2.2⟩
def F_laws_eqValS : Fn' ((List (Int × (Int × ByteArray))) × ((List (Int × (Int × ByteArray))) × Unit)) Bool := ⟨33, (Tvs.cons (Tv.one (Lf.sh (.pair (.int .i64) (.pair (.int .i64) .str)))) (Tvs.cons (Tv.one (Lf.sh (.pair (.int .i64) (.pair (.int .i64) .str)))) Tvs.nil)), (Rt.v (Tv.one Lf.bool)), fun n a => laws_eqValS n a.1 a.2.1⟩
def S_laws_eqValS_L1 := Sh.of (Sl.one (Lf.sh (.pair (.int .i64) (.pair (.int .i64) .str))) (Sl.one (Lf.sh (.pair (.int .i64) (.pair (.int .i64) .str))) (Sl.gap 3 (Sl.one (Lf.int .i64) (Sl.gap 21 Sl.nil))))) Rw.nil Ls.nil
def T_laws_eqValS (n : Nat) : Tab Bool := [([.b, .r, .l, .r, .r], row1 S_laws_eqValS_L1 fun j a => laws_eqValS_L1 n j a.1.1 a.1.2.1 a.1.2.2.1)]
def F_laws_markText : Fn' (Int × Unit) ByteArray := ⟨88, (Tvs.cons (Tv.one (Lf.int .i64)) Tvs.nil), (Rt.v (Tv.one Lf.str)), fun n a => laws_markText n a.1⟩
def S_laws_markText_L1 := Sh.of (Sl.one (Lf.int .i64) (Sl.gap 2 (Sl.one Lf.str (Sl.gap 16 Sl.nil)))) Rw.nil Ls.nil
def T_laws_markText (n : Nat) : Tab ByteArray := [([.b, .l, .r, .r, .r], row1 S_laws_markText_L1 fun j a => laws_markText_L1 n j a.1.1 a.1.2.1)]
def F_laws_markValS_o : Fn' ((List (Int × (Int × ByteArray))) × (Int × Unit)) (Int × ((List (Int × (Int × ByteArray))) × Unit)) := ⟨34, (Tvs.cons (Tv.one (Lf.od (.pair (.int .i64) (.pair (.int .i64) .str)))) (Tvs.cons (Tv.one (Lf.int .i64)) Tvs.nil)), (Rt.tup (Tvs.cons (Tv.one (Lf.int .i64)) (Tvs.cons (Tv.one (Lf.od (.pair (.int .i64) (.pair (.int .i64) .str)))) Tvs.nil))), fun n a => laws_markValS_o n a.1 a.2.1⟩
def S_laws_markValS_o_L1 := Sh.of (Sl.k (Kf.ow 40) (Sl.one (Lf.int .i64) (Sl.gap 3 (Sl.one (Lf.int .i64) (Sl.gap 29 Sl.nil))))) (Rw.data 40 (.pair (.int .i64) (.pair (.int .i64) .str)) Rw.nil) (Ls.k (Kf.ow 40) Ls.nil)
def T_laws_markValS_o (n : Nat) : Tab (Int × ((List (Int × (Int × ByteArray))) × Unit)) := [([.b, .r, .l, .r], row1 S_laws_markValS_o_L1 fun j a => laws_markValS_o_L1 n j a.1.1 a.1.2.1 a.2.1)]
def F_laws_markByteS_o : Fn' ((List Int) × (Int × Unit)) (Int × ((List Int) × Unit)) := ⟨23, (Tvs.cons (Tv.one (Lf.od (.int .u8))) (Tvs.cons (Tv.one (Lf.int .i64)) Tvs.nil)), (Rt.tup (Tvs.cons (Tv.one (Lf.int .i64)) (Tvs.cons (Tv.one (Lf.od (.int .u8))) Tvs.nil))), fun n a => laws_markByteS_o n a.1 a.2.1⟩
def S_laws_markByteS_o_L1 := Sh.of (Sl.k (Kf.ow 40) (Sl.one (Lf.int .i64) (Sl.gap 3 (Sl.one (Lf.int .i64) (Sl.gap 14 Sl.nil))))) (Rw.data 40 (.int .u8) Rw.nil) (Ls.k (Kf.ow 40) Ls.nil)
def T_laws_markByteS_o (n : Nat) : Tab (Int × ((List Int) × Unit)) := [([.b, .r, .l, .r], row1 S_laws_markByteS_o_L1 fun j a => laws_markByteS_o_L1 n j a.1.1 a.1.2.1 a.2.1)]
def F_laws_heldByteS : Fn' ((List Int) × (Int × Unit)) Int := ⟨24, (Tvs.cons (Tv.one (Lf.sh (.int .u8))) (Tvs.cons (Tv.one (Lf.int .i64)) Tvs.nil)), (Rt.v (Tv.one (Lf.int .i64))), fun n a => laws_heldByteS n a.1 a.2.1⟩
def S_laws_heldByteS_L1 := Sh.of (Sl.one (Lf.sh (.int .u8)) (Sl.one (Lf.int .i64) (Sl.gap 3 (Sl.one (Lf.int .i64) (Sl.gap 16 Sl.nil))))) Rw.nil Ls.nil
def T_laws_heldByteS (n : Nat) : Tab Int := [([.b, .r, .l, .r], row1 S_laws_heldByteS_L1 fun j a => laws_heldByteS_L1 n j a.1.1 a.1.2.1 a.1.2.2.1)]
def F_laws_FnExactRowBytes : Fn' ((List (Int × (Int × ByteArray))) × Unit) Bool := ⟨6, (Tvs.cons (Tv.one (Lf.sh (.pair (.int .i64) (.pair (.int .i64) .str)))) Tvs.nil), (Rt.v (Tv.one Lf.bool)), fun n a => laws_FnExactRowBytes n a.1⟩
def ents : List Ent := [entOf F_laws_szVal, entOf F_laws_szValS, entOf F_laws_toVal, entOf F_laws_toValS, entOf F_spec_l01Num, entOf F_spec_ValOk, entOf F_spec_l06Pow, entOf F_spec_PutNum, entOf F_spec_ValBytes, entOf F_spec_RowBytes, entOf F_impl_within, entOf F_impl_ValOk, entOf F_impl_num_o, entOf F_impl_flag_o, entOf F_impl_text_o, entOf F_impl_val_o, entOf F_impl_vals_o, entOf F_impl_RowBytes, entOf F_laws_eqByteS, entOf F_laws_eqVal, entOf F_laws_eqValS, entOf F_laws_markText, entOf F_laws_markValS_o, entOf F_laws_markByteS_o, entOf F_laws_heldByteS, entOf F_laws_FnExactRowBytes]
def callC (n : Nat) : CF := chain ents n
theorem eq_laws_szVal (n : Nat) (a) : evalBodyU env (callC n) n F_laws_szVal.g [] (F_laws_szVal.args.to a) F_laws_szVal.ret.un = F_laws_szVal.run (n + 1) a := by kernel_rfl
theorem eq_laws_szValS (n : Nat) (a) : evalBodyU env (callC n) n F_laws_szValS.g (T_laws_szValS n) (F_laws_szValS.args.to a) F_laws_szValS.ret.un = F_laws_szValS.run (n + 1) a := by kernel_rfl
theorem tab_laws_szValS (n : Nat) : TabOk env (callC n) n F_laws_szValS.g (T_laws_szValS n) F_laws_szValS.ret.un := tabOk (List.forall_mem_cons.mpr ⟨row1_ok (fun _ => rfl) (fun _ _ => by kernel_rfl), List.forall_mem_nil _⟩)
theorem eq_laws_toVal (n : Nat) (a) : evalBodyU env (callC n) n F_laws_toVal.g [] (F_laws_toVal.args.to a) F_laws_toVal.ret.un = F_laws_toVal.run (n + 1) a := by kernel_rfl
theorem eq_laws_toValS (n : Nat) (a) : evalBodyU env (callC n) n F_laws_toValS.g (T_laws_toValS n) (F_laws_toValS.args.to a) F_laws_toValS.ret.un = F_laws_toValS.run (n + 1) a := by kernel_rfl
theorem tab_laws_toValS (n : Nat) : TabOk env (callC n) n F_laws_toValS.g (T_laws_toValS n) F_laws_toValS.ret.un := tabOk (List.forall_mem_cons.mpr ⟨row1_ok (fun _ => rfl) (fun _ _ => by kernel_rfl), List.forall_mem_nil _⟩)
theorem eq_spec_l01Num (n : Nat) (a) : evalBodyU env (callC n) n F_spec_l01Num.g [] (F_spec_l01Num.args.to a) F_spec_l01Num.ret.un = F_spec_l01Num.run (n + 1) a := by kernel_rfl
theorem eq_spec_ValOk (n : Nat) (a) : evalBodyU env (callC n) n F_spec_ValOk.g [] (F_spec_ValOk.args.to a) F_spec_ValOk.ret.un = F_spec_ValOk.run (n + 1) a := by kernel_rfl
theorem eq_spec_l06Pow (n : Nat) (a) : evalBodyU env (callC n) n F_spec_l06Pow.g (T_spec_l06Pow n) (F_spec_l06Pow.args.to a) F_spec_l06Pow.ret.un = F_spec_l06Pow.run (n + 1) a := by kernel_rfl
theorem tab_spec_l06Pow (n : Nat) : TabOk env (callC n) n F_spec_l06Pow.g (T_spec_l06Pow n) F_spec_l06Pow.ret.un := tabOk (List.forall_mem_cons.mpr ⟨row1_ok (fun _ => rfl) (fun _ _ => by kernel_rfl), List.forall_mem_nil _⟩)
theorem eq_spec_PutNum (n : Nat) (a) : evalBodyU env (callC n) n F_spec_PutNum.g (T_spec_PutNum n) (F_spec_PutNum.args.to a) F_spec_PutNum.ret.un = F_spec_PutNum.run (n + 1) a := by kernel_rfl
theorem tab_spec_PutNum (n : Nat) : TabOk env (callC n) n F_spec_PutNum.g (T_spec_PutNum n) F_spec_PutNum.ret.un := tabOk (List.forall_mem_cons.mpr ⟨row1_ok (fun _ => rfl) (fun _ _ => by kernel_rfl), List.forall_mem_nil _⟩)
theorem eq_spec_ValBytes (n : Nat) (a) : evalBodyU env (callC n) n F_spec_ValBytes.g [] (F_spec_ValBytes.args.to a) F_spec_ValBytes.ret.un = F_spec_ValBytes.run (n + 1) a := by kernel_rfl
theorem eq_spec_RowBytes (n : Nat) (a) : evalBodyU env (callC n) n F_spec_RowBytes.g (T_spec_RowBytes n) (F_spec_RowBytes.args.to a) F_spec_RowBytes.ret.un = F_spec_RowBytes.run (n + 1) a := by kernel_rfl
theorem tab_spec_RowBytes (n : Nat) : TabOk env (callC n) n F_spec_RowBytes.g (T_spec_RowBytes n) F_spec_RowBytes.ret.un := tabOk (List.forall_mem_cons.mpr ⟨row1_ok (fun _ => rfl) (fun _ _ => by kernel_rfl), List.forall_mem_nil _⟩)
theorem eq_impl_within (n : Nat) (a) : evalBodyU env (callC n) n F_impl_within.g [] (F_impl_within.args.to a) F_impl_within.ret.un = F_impl_within.run (n + 1) a := by kernel_rfl
theorem eq_impl_ValOk (n : Nat) (a) : evalBodyU env (callC n) n F_impl_ValOk.g [] (F_impl_ValOk.args.to a) F_impl_ValOk.ret.un = F_impl_ValOk.run (n + 1) a := by kernel_rfl
theorem eq_impl_num_o (n : Nat) (a) : evalBodyU env (callC n) n F_impl_num_o.g (T_impl_num_o n) (F_impl_num_o.args.to a) F_impl_num_o.ret.un = F_impl_num_o.run (n + 1) a := by kernel_rfl
theorem tab_impl_num_o (n : Nat) : TabOk env (callC n) n F_impl_num_o.g (T_impl_num_o n) F_impl_num_o.ret.un := tabOk (List.forall_mem_cons.mpr ⟨row1_ok (fun _ => rfl) (fun _ _ => by kernel_rfl), List.forall_mem_nil _⟩)
theorem eq_impl_flag_o (n : Nat) (a) : evalBodyU env (callC n) n F_impl_flag_o.g [] (F_impl_flag_o.args.to a) F_impl_flag_o.ret.un = F_impl_flag_o.run (n + 1) a := by kernel_rfl
theorem eq_impl_text_o (n : Nat) (a) : evalBodyU env (callC n) n F_impl_text_o.g [] (F_impl_text_o.args.to a) F_impl_text_o.ret.un = F_impl_text_o.run (n + 1) a := by kernel_rfl
theorem eq_impl_val_o (n : Nat) (a) : evalBodyU env (callC n) n F_impl_val_o.g [] (F_impl_val_o.args.to a) F_impl_val_o.ret.un = F_impl_val_o.run (n + 1) a := by kernel_rfl
theorem eq_impl_vals_o (n : Nat) (a) : evalBodyU env (callC n) n F_impl_vals_o.g (T_impl_vals_o n) (F_impl_vals_o.args.to a) F_impl_vals_o.ret.un = F_impl_vals_o.run (n + 1) a := by kernel_rfl
theorem tab_impl_vals_o (n : Nat) : TabOk env (callC n) n F_impl_vals_o.g (T_impl_vals_o n) F_impl_vals_o.ret.un := tabOk (List.forall_mem_cons.mpr ⟨row1_ok (fun _ => rfl) (fun _ _ => by kernel_rfl), List.forall_mem_nil _⟩)
theorem eq_impl_RowBytes (n : Nat) (a) : evalBodyU env (callC n) n F_impl_RowBytes.g (T_impl_RowBytes n) (F_impl_RowBytes.args.to a) F_impl_RowBytes.ret.un = F_impl_RowBytes.run (n + 1) a := by kernel_rfl
theorem tab_impl_RowBytes (n : Nat) : TabOk env (callC n) n F_impl_RowBytes.g (T_impl_RowBytes n) F_impl_RowBytes.ret.un := tabOk (List.forall_mem_cons.mpr ⟨row1_ok (fun _ => rfl) (fun _ _ => by kernel_rfl), List.forall_mem_nil _⟩)
theorem eq_laws_eqByteS (n : Nat) (a) : evalBodyU env (callC n) n F_laws_eqByteS.g (T_laws_eqByteS n) (F_laws_eqByteS.args.to a) F_laws_eqByteS.ret.un = F_laws_eqByteS.run (n + 1) a := by kernel_rfl
theorem tab_laws_eqByteS (n : Nat) : TabOk env (callC n) n F_laws_eqByteS.g (T_laws_eqByteS n) F_laws_eqByteS.ret.un := tabOk (List.forall_mem_cons.mpr ⟨row1_ok (fun _ => rfl) (fun _ _ => by kernel_rfl), List.forall_mem_nil _⟩)
theorem eq_laws_eqVal (n : Nat) (a) : evalBodyU env (callC n) n F_laws_eqVal.g [] (F_laws_eqVal.args.to a) F_laws_eqVal.ret.un = F_laws_eqVal.run (n + 1) a := by kernel_rfl
theorem eq_laws_eqValS (n : Nat) (a) : evalBodyU env (callC n) n F_laws_eqValS.g (T_laws_eqValS n) (F_laws_eqValS.args.to a) F_laws_eqValS.ret.un = F_laws_eqValS.run (n + 1) a := by kernel_rfl
theorem tab_laws_eqValS (n : Nat) : TabOk env (callC n) n F_laws_eqValS.g (T_laws_eqValS n) F_laws_eqValS.ret.un := tabOk (List.forall_mem_cons.mpr ⟨row1_ok (fun _ => rfl) (fun _ _ => by kernel_rfl), List.forall_mem_nil _⟩)
theorem eq_laws_markText (n : Nat) (a) : evalBodyU env (callC n) n F_laws_markText.g (T_laws_markText n) (F_laws_markText.args.to a) F_laws_markText.ret.un = F_laws_markText.run (n + 1) a := by kernel_rfl
theorem tab_laws_markText (n : Nat) : TabOk env (callC n) n F_laws_markText.g (T_laws_markText n) F_laws_markText.ret.un := tabOk (List.forall_mem_cons.mpr ⟨row1_ok (fun _ => rfl) (fun _ _ => by kernel_rfl), List.forall_mem_nil _⟩)
theorem eq_laws_markValS_o (n : Nat) (a) : evalBodyU env (callC n) n F_laws_markValS_o.g (T_laws_markValS_o n) (F_laws_markValS_o.args.to a) F_laws_markValS_o.ret.un = F_laws_markValS_o.run (n + 1) a := by kernel_rfl
theorem tab_laws_markValS_o (n : Nat) : TabOk env (callC n) n F_laws_markValS_o.g (T_laws_markValS_o n) F_laws_markValS_o.ret.un := tabOk (List.forall_mem_cons.mpr ⟨row1_ok (fun _ => rfl) (fun _ _ => by kernel_rfl), List.forall_mem_nil _⟩)
theorem eq_laws_markByteS_o (n : Nat) (a) : evalBodyU env (callC n) n F_laws_markByteS_o.g (T_laws_markByteS_o n) (F_laws_markByteS_o.args.to a) F_laws_markByteS_o.ret.un = F_laws_markByteS_o.run (n + 1) a := by kernel_rfl
theorem tab_laws_markByteS_o (n : Nat) : TabOk env (callC n) n F_laws_markByteS_o.g (T_laws_markByteS_o n) F_laws_markByteS_o.ret.un := tabOk (List.forall_mem_cons.mpr ⟨row1_ok (fun _ => rfl) (fun _ _ => by kernel_rfl), List.forall_mem_nil _⟩)
theorem eq_laws_heldByteS (n : Nat) (a) : evalBodyU env (callC n) n F_laws_heldByteS.g (T_laws_heldByteS n) (F_laws_heldByteS.args.to a) F_laws_heldByteS.ret.un = F_laws_heldByteS.run (n + 1) a := by kernel_rfl
theorem tab_laws_heldByteS (n : Nat) : TabOk env (callC n) n F_laws_heldByteS.g (T_laws_heldByteS n) F_laws_heldByteS.ret.un := tabOk (List.forall_mem_cons.mpr ⟨row1_ok (fun _ => rfl) (fun _ _ => by kernel_rfl), List.forall_mem_nil _⟩)
theorem eq_laws_FnExactRowBytes (n : Nat) (a) : evalBodyU env (callC n) n F_laws_FnExactRowBytes.g [] (F_laws_FnExactRowBytes.args.to a) F_laws_FnExactRowBytes.ret.un = F_laws_FnExactRowBytes.run (n + 1) a := by kernel_rfl
structure AllOk (n : Nat) : Prop where
  o_laws_szVal : FnOk Try.prog env F_laws_szVal n
  o_laws_szValS : FnOk Try.prog env F_laws_szValS n
  o_laws_toVal : FnOk Try.prog env F_laws_toVal n
  o_laws_toValS : FnOk Try.prog env F_laws_toValS n
  o_spec_l01Num : FnOk Try.prog env F_spec_l01Num n
  o_spec_ValOk : FnOk Try.prog env F_spec_ValOk n
  o_spec_l06Pow : FnOk Try.prog env F_spec_l06Pow n
  o_spec_PutNum : FnOk Try.prog env F_spec_PutNum n
  o_spec_ValBytes : FnOk Try.prog env F_spec_ValBytes n
  o_spec_RowBytes : FnOk Try.prog env F_spec_RowBytes n
  o_impl_within : FnOk Try.prog env F_impl_within n
  o_impl_ValOk : FnOk Try.prog env F_impl_ValOk n
  o_impl_num_o : FnOk Try.prog env F_impl_num_o n
  o_impl_flag_o : FnOk Try.prog env F_impl_flag_o n
  o_impl_text_o : FnOk Try.prog env F_impl_text_o n
  o_impl_val_o : FnOk Try.prog env F_impl_val_o n
  o_impl_vals_o : FnOk Try.prog env F_impl_vals_o n
  o_impl_RowBytes : FnOk Try.prog env F_impl_RowBytes n
  o_laws_eqByteS : FnOk Try.prog env F_laws_eqByteS n
  o_laws_eqVal : FnOk Try.prog env F_laws_eqVal n
  o_laws_eqValS : FnOk Try.prog env F_laws_eqValS n
  o_laws_markText : FnOk Try.prog env F_laws_markText n
  o_laws_markValS_o : FnOk Try.prog env F_laws_markValS_o n
  o_laws_markByteS_o : FnOk Try.prog env F_laws_markByteS_o n
  o_laws_heldByteS : FnOk Try.prog env F_laws_heldByteS n
  o_laws_FnExactRowBytes : FnOk Try.prog env F_laws_FnExactRowBytes n
theorem calls_ok {n : Nat} (h : AllOk n) : CFok Try.prog env (callC n) := chain_ok (by
  simp only [ents, List.forall_mem_cons, List.not_mem_nil, false_implies, implies_true, and_true]
  exact ⟨entOk_of h.o_laws_szVal, entOk_of h.o_laws_szValS, entOk_of h.o_laws_toVal, entOk_of h.o_laws_toValS, entOk_of h.o_spec_l01Num, entOk_of h.o_spec_ValOk, entOk_of h.o_spec_l06Pow, entOk_of h.o_spec_PutNum, entOk_of h.o_spec_ValBytes, entOk_of h.o_spec_RowBytes, entOk_of h.o_impl_within, entOk_of h.o_impl_ValOk, entOk_of h.o_impl_num_o, entOk_of h.o_impl_flag_o, entOk_of h.o_impl_text_o, entOk_of h.o_impl_val_o, entOk_of h.o_impl_vals_o, entOk_of h.o_impl_RowBytes, entOk_of h.o_laws_eqByteS, entOk_of h.o_laws_eqVal, entOk_of h.o_laws_eqValS, entOk_of h.o_laws_markText, entOk_of h.o_laws_markValS_o, entOk_of h.o_laws_markByteS_o, entOk_of h.o_laws_heldByteS, entOk_of h.o_laws_FnExactRowBytes⟩)
theorem calls_det (n : Nat) : CFdet (callC n) := chain_det (by
  simp only [ents, List.forall_mem_cons, List.not_mem_nil, false_implies, implies_true, and_true]
  exact ⟨entDet F_laws_szVal, entDet F_laws_szValS, entDet F_laws_toVal, entDet F_laws_toValS, entDet F_spec_l01Num, entDet F_spec_ValOk, entDet F_spec_l06Pow, entDet F_spec_PutNum, entDet F_spec_ValBytes, entDet F_spec_RowBytes, entDet F_impl_within, entDet F_impl_ValOk, entDet F_impl_num_o, entDet F_impl_flag_o, entDet F_impl_text_o, entDet F_impl_val_o, entDet F_impl_vals_o, entDet F_impl_RowBytes, entDet F_laws_eqByteS, entDet F_laws_eqVal, entDet F_laws_eqValS, entDet F_laws_markText, entDet F_laws_markValS_o, entDet F_laws_markByteS_o, entDet F_laws_heldByteS, entDet F_laws_FnExactRowBytes⟩)
theorem all_ok : ∀ n, AllOk n
  | 0 => ⟨fnOk_zero fun a => rfl, fnOk_zero fun a => rfl, fnOk_zero fun a => rfl, fnOk_zero fun a => rfl, fnOk_zero fun a => rfl, fnOk_zero fun a => rfl, fnOk_zero fun a => rfl, fnOk_zero fun a => rfl, fnOk_zero fun a => rfl, fnOk_zero fun a => rfl, fnOk_zero fun a => rfl, fnOk_zero fun a => rfl, fnOk_zero fun a => rfl, fnOk_zero fun a => rfl, fnOk_zero fun a => rfl, fnOk_zero fun a => rfl, fnOk_zero fun a => rfl, fnOk_zero fun a => rfl, fnOk_zero fun a => rfl, fnOk_zero fun a => rfl, fnOk_zero fun a => rfl, fnOk_zero fun a => rfl, fnOk_zero fun a => rfl, fnOk_zero fun a => rfl, fnOk_zero fun a => rfl, fnOk_zero fun a => rfl⟩
  | n + 1 => ⟨fnOk_succ envOk eqsOk (calls_ok (all_ok n)) (calls_det n) tabOk_nil (eq_laws_szVal n), fnOk_succ envOk eqsOk (calls_ok (all_ok n)) (calls_det n) (tab_laws_szValS n) (eq_laws_szValS n), fnOk_succ envOk eqsOk (calls_ok (all_ok n)) (calls_det n) tabOk_nil (eq_laws_toVal n), fnOk_succ envOk eqsOk (calls_ok (all_ok n)) (calls_det n) (tab_laws_toValS n) (eq_laws_toValS n), fnOk_succ envOk eqsOk (calls_ok (all_ok n)) (calls_det n) tabOk_nil (eq_spec_l01Num n), fnOk_succ envOk eqsOk (calls_ok (all_ok n)) (calls_det n) tabOk_nil (eq_spec_ValOk n), fnOk_succ envOk eqsOk (calls_ok (all_ok n)) (calls_det n) (tab_spec_l06Pow n) (eq_spec_l06Pow n), fnOk_succ envOk eqsOk (calls_ok (all_ok n)) (calls_det n) (tab_spec_PutNum n) (eq_spec_PutNum n), fnOk_succ envOk eqsOk (calls_ok (all_ok n)) (calls_det n) tabOk_nil (eq_spec_ValBytes n), fnOk_succ envOk eqsOk (calls_ok (all_ok n)) (calls_det n) (tab_spec_RowBytes n) (eq_spec_RowBytes n), fnOk_succ envOk eqsOk (calls_ok (all_ok n)) (calls_det n) tabOk_nil (eq_impl_within n), fnOk_succ envOk eqsOk (calls_ok (all_ok n)) (calls_det n) tabOk_nil (eq_impl_ValOk n), fnOk_succ envOk eqsOk (calls_ok (all_ok n)) (calls_det n) (tab_impl_num_o n) (eq_impl_num_o n), fnOk_succ envOk eqsOk (calls_ok (all_ok n)) (calls_det n) tabOk_nil (eq_impl_flag_o n), fnOk_succ envOk eqsOk (calls_ok (all_ok n)) (calls_det n) tabOk_nil (eq_impl_text_o n), fnOk_succ envOk eqsOk (calls_ok (all_ok n)) (calls_det n) tabOk_nil (eq_impl_val_o n), fnOk_succ envOk eqsOk (calls_ok (all_ok n)) (calls_det n) (tab_impl_vals_o n) (eq_impl_vals_o n), fnOk_succ envOk eqsOk (calls_ok (all_ok n)) (calls_det n) (tab_impl_RowBytes n) (eq_impl_RowBytes n), fnOk_succ envOk eqsOk (calls_ok (all_ok n)) (calls_det n) (tab_laws_eqByteS n) (eq_laws_eqByteS n), fnOk_succ envOk eqsOk (calls_ok (all_ok n)) (calls_det n) tabOk_nil (eq_laws_eqVal n), fnOk_succ envOk eqsOk (calls_ok (all_ok n)) (calls_det n) (tab_laws_eqValS n) (eq_laws_eqValS n), fnOk_succ envOk eqsOk (calls_ok (all_ok n)) (calls_det n) (tab_laws_markText n) (eq_laws_markText n), fnOk_succ envOk eqsOk (calls_ok (all_ok n)) (calls_det n) (tab_laws_markValS_o n) (eq_laws_markValS_o n), fnOk_succ envOk eqsOk (calls_ok (all_ok n)) (calls_det n) (tab_laws_markByteS_o n) (eq_laws_markByteS_o n), fnOk_succ envOk eqsOk (calls_ok (all_ok n)) (calls_det n) (tab_laws_heldByteS n) (eq_laws_heldByteS n), fnOk_succ envOk eqsOk (calls_ok (all_ok n)) (calls_det n) tabOk_nil (eq_laws_FnExactRowBytes n)⟩
end Go.Proofs.Ytanipajbapcgfaa.Ev

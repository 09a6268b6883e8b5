/- The tables of the law FnExactRowText: what the evaluator makes of the program is these functions. -/
import Derived.Test.YthfkolhjnioblaaEvFnFnExactRowText
import Derived.Test.YthfkolhjnioblaaEvHead
import Derived.Test.YthfkolhjnioblaaEvEq
import Derived.Test.YthfkolhjnioblaaChecked
set_option linter.all false
namespace Go.Proofs.Ythfkolhjnioblaa.Ev
open Go Go.Proofs
def bytesT : List (Kd × Nat) := [((.pair (.int .i64) (.pair (.int .i64) .str)), 32)]
def bytesOf (f : Kd) : Nat := ((bytesT.find? fun p => decide (p.1 = f)).map (·.2)).getD 1
theorem bytes_pos (f : Kd) : 1 ≤ bytesOf f := by
  unfold bytesOf
  cases h : bytesT.find? fun p => decide (p.1 = f) with
  | none => exact Nat.le_refl _
  | some p =>
    have hp : ∀ q ∈ bytesT, 1 ≤ q.2 := by decide
    exact hp p (List.mem_of_find?_eq_some h)
noncomputable def env : Env := ⟨[(3, ⟨1, 0, false, [], (.int .i64)⟩),
  (4, ⟨1, 0, false, [], .bool⟩),
  (5, ⟨1, 0, false, [], (.int .u8)⟩),
  (9, ⟨1, 0, false, [], .str⟩),
  (22, ⟨1, 32, false, [], (.sl (.pair (.int .i64) (.pair (.int .i64) .str)))⟩),
  (25, ⟨1, 32, false, [], (.sl (.pair (.int .i64) (.pair (.int .i64) .str)))⟩),
  (29, ⟨3, 0, true, [(0, 1), (1, 1), (2, 1)], (.pair (.int .i64) (.pair (.int .i64) .str))⟩),
  (32, ⟨3, 0, true, [(0, 1), (1, 1), (2, 1)], (.pair (.int .i64) (.pair (.int .i64) .str))⟩),
  (35, ⟨1, 1, false, [], (.sl (.int .u8))⟩),
  (55, ⟨1, 16, false, [], (.sl .str)⟩),
  (82, ⟨1, 0, true, [(0, 1)], (.sl (.pair (.int .i64) (.pair (.int .i64) .str)))⟩),
  (86, ⟨1, 0, true, [(0, 1)], (.sl (.pair (.int .i64) (.pair (.int .i64) .str)))⟩)],
  [(12, Try.f12), (15, Try.f15), (17, Try.f17), (19, Try.f19), (20, Try.f20), (21, Try.f21), (22, Try.f22), (23, Try.f23), (33, Try.f33), (47, Try.f47), (55, Try.f55), (56, Try.f56), (57, Try.f57), (58, Try.f58), (59, Try.f59), (65, Try.f65), (66, Try.f66), (67, Try.f67), (68, Try.f68), (69, Try.f69), (70, Try.f70), (71, Try.f71), (92, Try.f92), (98, Try.f98), (99, Try.f99), (103, Try.f103), (112, Try.f112)], [], [(15, [(5, ⟨35, []⟩)]), (17, [(3, ⟨25, []⟩)]), (19, [(4, ⟨35, []⟩)]), (21, [(12, ⟨26, []⟩)]), (23, [(11, ⟨26, []⟩)]), (33, [(6, ⟨9, []⟩)]), (56, [(2, ⟨450, []⟩)]), (58, [(2, ⟨450, []⟩)]), (92, [(3, ⟨456, []⟩)]), (98, [(3, ⟨904, []⟩)]), (99, [(3, ⟨904, []⟩)]), (112, [(3, ⟨456, []⟩)])], [32]⟩
theorem envOk : EnvOk Try.prog env := envOk_of (by kernel_rfl) (by
  simp only [env, List.forall_mem_cons, List.not_mem_nil, false_implies, implies_true, and_true]
  exact ⟨⟨Try.func12, by kernel_rfl⟩, ⟨Try.func15, by kernel_rfl⟩, ⟨Try.func17, by kernel_rfl⟩, ⟨Try.func19, by kernel_rfl⟩, ⟨Try.func20, by kernel_rfl⟩, ⟨Try.func21, by kernel_rfl⟩, ⟨Try.func22, by kernel_rfl⟩, ⟨Try.func23, by kernel_rfl⟩, ⟨Try.func33, by kernel_rfl⟩, ⟨Try.func47, by kernel_rfl⟩, ⟨Try.func55, by kernel_rfl⟩, ⟨Try.func56, by kernel_rfl⟩, ⟨Try.func57, by kernel_rfl⟩, ⟨Try.func58, by kernel_rfl⟩, ⟨Try.func59, by kernel_rfl⟩, ⟨Try.func65, by kernel_rfl⟩, ⟨Try.func66, by kernel_rfl⟩, ⟨Try.func67, by kernel_rfl⟩, ⟨Try.func68, by kernel_rfl⟩, ⟨Try.func69, by kernel_rfl⟩, ⟨Try.func70, by kernel_rfl⟩, ⟨Try.func71, by kernel_rfl⟩, ⟨Try.func92, by kernel_rfl⟩, ⟨Try.func98, by kernel_rfl⟩, ⟨Try.func99, by kernel_rfl⟩, ⟨Try.func103, by kernel_rfl⟩, ⟨Try.func112, by kernel_rfl⟩⟩) (by kernel_rfl)
theorem eqsOk : EqsOk Try.prog env := eqsOk_of (by kernel_rfl)
def F_laws_szVal : Fn' ((Int × (Int × ByteArray)) × (Int × Unit)) Int := ⟨20, (Tvs.cons (Tv.agg (Ls.cons (Lf.int .i64) (Ls.cons (Lf.int .i64) (Ls.one Lf.str)))) (Tvs.cons (Tv.one (Lf.int .i64)) Tvs.nil)), (Rt.v (Tv.one (Lf.int .i64))), fun n a => laws_szVal n a.1.1 a.1.2.1 a.1.2.2 a.2.1⟩
def F_laws_szValS : Fn' ((List (Int × (Int × ByteArray))) × (Int × Unit)) Int := ⟨15, (Tvs.cons (Tv.one (Lf.sh (.pair (.int .i64) (.pair (.int .i64) .str)))) (Tvs.cons (Tv.one (Lf.int .i64)) Tvs.nil)), (Rt.v (Tv.one (Lf.int .i64))), fun n a => laws_szValS n a.1 a.2.1⟩
def S_laws_szValS_L1 := Sh.of (Sl.one (Lf.sh (.pair (.int .i64) (.pair (.int .i64) .str))) (Sl.one (Lf.int .i64) (Sl.gap 3 (Sl.one (Lf.int .i64) (Sl.gap 21 Sl.nil))))) Rw.nil Ls.nil
def T_laws_szValS (n : Nat) : Tab Int := [([.b, .r, .l, .r, .r, .r], row1 S_laws_szValS_L1 fun j a => laws_szValS_L1 n j a.1.1 a.1.2.1 a.1.2.2.1)]
def F_laws_szRow : Fn' ((List (Int × (Int × ByteArray))) × (Int × Unit)) Int := ⟨55, (Tvs.cons (Tv.agg (Ls.one (Lf.sh (.pair (.int .i64) (.pair (.int .i64) .str))))) (Tvs.cons (Tv.one (Lf.int .i64)) Tvs.nil)), (Rt.v (Tv.one (Lf.int .i64))), fun n a => laws_szRow n a.1 a.2.1⟩
def F_laws_toVal : Fn' ((Int × (Int × ByteArray)) × Unit) (Int × (Int × ByteArray)) := ⟨22, (Tvs.cons (Tv.agg (Ls.cons (Lf.int .i64) (Ls.cons (Lf.int .i64) (Ls.one Lf.str)))) Tvs.nil), (Rt.v (Tv.agg (Ls.cons (Lf.int .i64) (Ls.cons (Lf.int .i64) (Ls.one Lf.str))))), fun n a => laws_toVal n a.1.1 a.1.2.1 a.1.2.2⟩
def F_laws_toValS : Fn' ((List (Int × (Int × ByteArray))) × Unit) (List (Int × (Int × ByteArray))) := ⟨17, (Tvs.cons (Tv.one (Lf.sh (.pair (.int .i64) (.pair (.int .i64) .str)))) Tvs.nil), (Rt.v (Tv.one (Lf.od (.pair (.int .i64) (.pair (.int .i64) .str))))), fun n a => laws_toValS n a.1⟩
def S_laws_toValS_L1 := Sh.of (Sl.one (Lf.sh (.pair (.int .i64) (.pair (.int .i64) .str))) (Sl.gap 2 (Sl.k (Kf.ow 232) (Sl.one (Lf.int .i64) (Sl.gap 18 Sl.nil))))) (Rw.data 232 (.pair (.int .i64) (.pair (.int .i64) .str)) Rw.nil) Ls.nil
def T_laws_toValS (n : Nat) : Tab (List (Int × (Int × ByteArray))) := [([.b, .r, .l, .r, .r], row1 S_laws_toValS_L1 fun j a => laws_toValS_L1 n j a.1.1 a.1.2.1 a.2.1)]
def F_laws_toRow : Fn' ((List (Int × (Int × ByteArray))) × Unit) (List (Int × (Int × ByteArray))) := ⟨57, (Tvs.cons (Tv.agg (Ls.one (Lf.sh (.pair (.int .i64) (.pair (.int .i64) .str))))) Tvs.nil), (Rt.v (Tv.agg (Ls.one (Lf.od (.pair (.int .i64) (.pair (.int .i64) .str)))))), fun n a => laws_toRow n a.1⟩
def F_spec_l01Num : Fn' (Int × Unit) Bool := ⟨103, (Tvs.cons (Tv.one (Lf.int .i64)) Tvs.nil), (Rt.v (Tv.one Lf.bool)), fun n a => spec_l01Num n a.1⟩
def F_spec_ValOk : Fn' ((Int × (Int × ByteArray)) × Unit) Bool := ⟨65, (Tvs.cons (Tv.agg (Ls.cons (Lf.int .i64) (Ls.cons (Lf.int .i64) (Ls.one Lf.str)))) Tvs.nil), (Rt.v (Tv.one Lf.bool)), fun n a => spec_ValOk n a.1.1 a.1.2.1 a.1.2.2⟩
def F_spec_l01Bool : Fn' (Int × Unit) ByteArray := ⟨66, (Tvs.cons (Tv.one (Lf.int .i64)) Tvs.nil), (Rt.v (Tv.one Lf.str)), fun n a => spec_l01Bool n a.1⟩
def F_spec_NumText : Fn' (Int × Unit) ByteArray := ⟨67, (Tvs.cons (Tv.one (Lf.int .i64)) Tvs.nil), (Rt.v (Tv.one Lf.str)), fun n a => spec_NumText n a.1⟩
def F_spec_l01Hex : Fn' (Int × Unit) Int := ⟨68, (Tvs.cons (Tv.one (Lf.int .i64)) Tvs.nil), (Rt.v (Tv.one (Lf.int .u8))), fun n a => spec_l01Hex n a.1⟩
def F_spec_ValText : Fn' ((Int × (Int × ByteArray)) × Unit) ByteArray := ⟨21, (Tvs.cons (Tv.agg (Ls.cons (Lf.int .i64) (Ls.cons (Lf.int .i64) (Ls.one Lf.str)))) Tvs.nil), (Rt.v (Tv.one Lf.str)), fun n a => spec_ValText n a.1.1 a.1.2.1 a.1.2.2⟩
def S_spec_ValText_L1 := Sh.of (Sl.gap 1 (Sl.k (Kf.box 104 0) (Sl.gap 1 (Sl.k (Kf.ow 232) (Sl.one (Lf.int .i64) (Sl.gap 63 Sl.nil)))))) (Rw.box 104 (.pair (.int .i64) (.pair (.int .i64) .str)) (Ls.cons (Lf.int .i64) (Ls.cons (Lf.int .i64) (Ls.cons Lf.str Ls.nil))) (Rw.data 232 (.int .u8) Rw.nil)) Ls.nil
def T_spec_ValText (n : Nat) : Tab ByteArray := [([.b, .r, .l, .r, .r, .r, .r], row1 S_spec_ValText_L1 fun j a => spec_ValText_L1 n j a.1.1 a.2.1.1 a.2.1.2.1 a.2.1.2.2.1 a.2.2.1)]
def F_spec_l05Vals : Fn' ((List (Int × (Int × ByteArray))) × Unit) (List ByteArray) := ⟨98, (Tvs.cons (Tv.one (Lf.sh (.pair (.int .i64) (.pair (.int .i64) .str)))) Tvs.nil), (Rt.v (Tv.one (Lf.od .str))), fun n a => spec_l05Vals n a.1⟩
def S_spec_l05Vals_L1 := Sh.of (Sl.gap 3 (Sl.k (Kf.ow 232) (Sl.gap 3 (Sl.one (Lf.sh (.pair (.int .i64) (.pair (.int .i64) .str))) (Sl.one (Lf.int .i64) (Sl.one (Lf.int .i64) (Sl.gap 10 Sl.nil))))))) (Rw.data 232 .str Rw.nil) Ls.nil
def T_spec_l05Vals (n : Nat) : Tab (List ByteArray) := [([.b, .r, .l, .r, .r], row1 S_spec_l05Vals_L1 fun j a => spec_l05Vals_L1 n j a.1.1 a.1.2.1 a.1.2.2.1 a.2.1)]
def F_spec_l05Join : Fn' ((List ByteArray) × Unit) ByteArray := ⟨92, (Tvs.cons (Tv.one (Lf.sh .str)) Tvs.nil), (Rt.v (Tv.one Lf.str)), fun n a => spec_l05Join n a.1⟩
def S_spec_l05Join_L1 := Sh.of (Sl.gap 3 (Sl.one Lf.str (Sl.gap 2 (Sl.one (Lf.sh .str) (Sl.one (Lf.int .i64) (Sl.one (Lf.int .i64) (Sl.gap 13 Sl.nil))))))) Rw.nil Ls.nil
def T_spec_l05Join (n : Nat) : Tab ByteArray := [([.b, .r, .l, .r, .r], row1 S_spec_l05Join_L1 fun j a => spec_l05Join_L1 n j a.1.1 a.1.2.1 a.1.2.2.1 a.1.2.2.2.1)]
def F_spec_RowText : Fn' ((List (Int × (Int × ByteArray))) × Unit) ByteArray := ⟨56, (Tvs.cons (Tv.agg (Ls.one (Lf.sh (.pair (.int .i64) (.pair (.int .i64) .str))))) Tvs.nil), (Rt.v (Tv.one Lf.str)), fun n a => spec_RowText n a.1⟩
def S_spec_RowText_L1 := Sh.of (Sl.gap 1 (Sl.k (Kf.box 104 0) (Sl.gap 4 (Sl.one (Lf.sh (.pair (.int .i64) (.pair (.int .i64) .str))) (Sl.one (Lf.int .i64) (Sl.one (Lf.int .i64) (Sl.gap 11 Sl.nil))))))) (Rw.box 104 (.sl (.pair (.int .i64) (.pair (.int .i64) .str))) (Ls.cons (Lf.sh (.pair (.int .i64) (.pair (.int .i64) .str))) Ls.nil) Rw.nil) Ls.nil
def T_spec_RowText (n : Nat) : Tab ByteArray := [([.b, .r, .l, .r], row1 S_spec_RowText_L1 fun j a => spec_RowText_L1 n j a.1.1 a.1.2.1 a.1.2.2.1 a.2.1.1)]
def F_impl_within : Fn' (Int × (Int × (Int × Unit))) Bool := ⟨71, (Tvs.cons (Tv.one (Lf.int .i64)) (Tvs.cons (Tv.one (Lf.int .i64)) (Tvs.cons (Tv.one (Lf.int .i64)) Tvs.nil))), (Rt.v (Tv.one Lf.bool)), fun n a => impl_within n a.1 a.2.1 a.2.2.1⟩
def F_impl_ValOk : Fn' ((Int × (Int × ByteArray)) × Unit) Bool := ⟨69, (Tvs.cons (Tv.agg (Ls.cons (Lf.int .i64) (Ls.cons (Lf.int .i64) (Ls.one Lf.str)))) Tvs.nil), (Rt.v (Tv.one Lf.bool)), fun n a => impl_ValOk n a.1.1 a.1.2.1 a.1.2.2⟩
def F_impl_boolText : Fn' (Int × Unit) ByteArray := ⟨70, (Tvs.cons (Tv.one (Lf.int .i64)) Tvs.nil), (Rt.v (Tv.one Lf.str)), fun n a => impl_boolText n a.1⟩
def F_impl_NumText : Fn' (Int × Unit) ByteArray := ⟨33, (Tvs.cons (Tv.one (Lf.int .i64)) Tvs.nil), (Rt.v (Tv.one Lf.str)), fun n a => impl_NumText n a.1⟩
def S_impl_NumText_L1 := Sh.of (Sl.one (Lf.int .i64) (Sl.gap 2 (Sl.one Lf.str (Sl.gap 28 Sl.nil)))) Rw.nil Ls.nil
def T_impl_NumText (n : Nat) : Tab ByteArray := [([.b, .l, .r, .r, .r, .r], row1 S_impl_NumText_L1 fun j a => impl_NumText_L1 n j a.1.1 a.1.2.1)]
def F_impl_ValText : Fn' ((Int × (Int × ByteArray)) × Unit) ByteArray := ⟨23, (Tvs.cons (Tv.agg (Ls.cons (Lf.int .i64) (Ls.cons (Lf.int .i64) (Ls.one Lf.str)))) Tvs.nil), (Rt.v (Tv.one Lf.str)), fun n a => impl_ValText n a.1.1 a.1.2.1 a.1.2.2⟩
def S_impl_ValText_L1 := Sh.of (Sl.gap 1 (Sl.k (Kf.box 104 0) (Sl.gap 1 (Sl.k (Kf.ow 232) (Sl.one (Lf.int .i64) (Sl.gap 63 Sl.nil)))))) (Rw.box 104 (.pair (.int .i64) (.pair (.int .i64) .str)) (Ls.cons (Lf.int .i64) (Ls.cons (Lf.int .i64) (Ls.cons Lf.str Ls.nil))) (Rw.data 232 (.int .u8) Rw.nil)) Ls.nil
def T_impl_ValText (n : Nat) : Tab ByteArray := [([.b, .r, .l, .r, .r, .r], row1 S_impl_ValText_L1 fun j a => impl_ValText_L1 n j a.1.1 a.2.1.1 a.2.1.2.1 a.2.1.2.2.1 a.2.2.1)]
def F_impl_glued : Fn' ((List ByteArray) × Unit) ByteArray := ⟨112, (Tvs.cons (Tv.one (Lf.sh .str)) Tvs.nil), (Rt.v (Tv.one Lf.str)), fun n a => impl_glued n a.1⟩
def S_impl_glued_L1 := Sh.of (Sl.gap 3 (Sl.one Lf.str (Sl.gap 2 (Sl.one (Lf.sh .str) (Sl.one (Lf.int .i64) (Sl.one (Lf.int .i64) (Sl.gap 13 Sl.nil))))))) Rw.nil Ls.nil
def T_impl_glued (n : Nat) : Tab ByteArray := [([.b, .r, .l, .r, .r], row1 S_impl_glued_L1 fun j a => impl_glued_L1 n j a.1.1 a.1.2.1 a.1.2.2.1 a.1.2.2.2.1)]
def F_impl_valTexts : Fn' ((List (Int × (Int × ByteArray))) × Unit) ByteArray := ⟨99, (Tvs.cons (Tv.one (Lf.sh (.pair (.int .i64) (.pair (.int .i64) .str)))) Tvs.nil), (Rt.v (Tv.one Lf.str)), fun n a => impl_valTexts n a.1⟩
def S_impl_valTexts_L1 := Sh.of (Sl.gap 3 (Sl.k (Kf.ow 232) (Sl.gap 3 (Sl.one (Lf.sh (.pair (.int .i64) (.pair (.int .i64) .str))) (Sl.one (Lf.int .i64) (Sl.one (Lf.int .i64) (Sl.gap 11 Sl.nil))))))) (Rw.data 232 .str Rw.nil) Ls.nil
def T_impl_valTexts (n : Nat) : Tab ByteArray := [([.b, .r, .l, .r, .r], row1 S_impl_valTexts_L1 fun j a => impl_valTexts_L1 n j a.1.1 a.1.2.1 a.1.2.2.1 a.2.1)]
def F_impl_RowText : Fn' ((List (Int × (Int × ByteArray))) × Unit) ByteArray := ⟨58, (Tvs.cons (Tv.agg (Ls.one (Lf.sh (.pair (.int .i64) (.pair (.int .i64) .str))))) Tvs.nil), (Rt.v (Tv.one Lf.str)), fun n a => impl_RowText n a.1⟩
def S_impl_RowText_L1 := Sh.of (Sl.gap 1 (Sl.k (Kf.box 104 0) (Sl.gap 4 (Sl.one (Lf.sh (.pair (.int .i64) (.pair (.int .i64) .str))) (Sl.one (Lf.int .i64) (Sl.one (Lf.int .i64) (Sl.gap 10 Sl.nil))))))) (Rw.box 104 (.sl (.pair (.int .i64) (.pair (.int .i64) .str))) (Ls.cons (Lf.sh (.pair (.int .i64) (.pair (.int .i64) .str))) Ls.nil) Rw.nil) Ls.nil
def T_impl_RowText (n : Nat) : Tab ByteArray := [([.b, .r, .l, .r], row1 S_impl_RowText_L1 fun j a => impl_RowText_L1 n j a.1.1 a.1.2.1 a.1.2.2.1 a.2.1.1)]
def F_laws_eqVal : Fn' ((Int × (Int × ByteArray)) × ((Int × (Int × ByteArray)) × Unit)) Bool := ⟨47, (Tvs.cons (Tv.agg (Ls.cons (Lf.int .i64) (Ls.cons (Lf.int .i64) (Ls.one Lf.str)))) (Tvs.cons (Tv.agg (Ls.cons (Lf.int .i64) (Ls.cons (Lf.int .i64) (Ls.one Lf.str)))) Tvs.nil)), (Rt.v (Tv.one Lf.bool)), fun n a => laws_eqVal n a.1.1 a.1.2.1 a.1.2.2 a.2.1.1 a.2.1.2.1 a.2.1.2.2⟩
def F_laws_eqValS : Fn' ((List (Int × (Int × ByteArray))) × ((List (Int × (Int × ByteArray))) × Unit)) Bool := ⟨19, (Tvs.cons (Tv.one (Lf.sh (.pair (.int .i64) (.pair (.int .i64) .str)))) (Tvs.cons (Tv.one (Lf.sh (.pair (.int .i64) (.pair (.int .i64) .str)))) Tvs.nil)), (Rt.v (Tv.one Lf.bool)), fun n a => laws_eqValS n a.1 a.2.1⟩
def S_laws_eqValS_L1 := Sh.of (Sl.one (Lf.sh (.pair (.int .i64) (.pair (.int .i64) .str))) (Sl.one (Lf.sh (.pair (.int .i64) (.pair (.int .i64) .str))) (Sl.gap 3 (Sl.one (Lf.int .i64) (Sl.gap 21 Sl.nil))))) Rw.nil Ls.nil
def T_laws_eqValS (n : Nat) : Tab Bool := [([.b, .r, .l, .r, .r], row1 S_laws_eqValS_L1 fun j a => laws_eqValS_L1 n j a.1.1 a.1.2.1 a.1.2.2.1)]
def F_laws_eqRow : Fn' ((List (Int × (Int × ByteArray))) × ((List (Int × (Int × ByteArray))) × Unit)) Bool := ⟨59, (Tvs.cons (Tv.agg (Ls.one (Lf.sh (.pair (.int .i64) (.pair (.int .i64) .str))))) (Tvs.cons (Tv.agg (Ls.one (Lf.sh (.pair (.int .i64) (.pair (.int .i64) .str))))) Tvs.nil)), (Rt.v (Tv.one Lf.bool)), fun n a => laws_eqRow n a.1 a.2.1⟩
def F_laws_FnExactRowText : Fn' ((List (Int × (Int × ByteArray))) × Unit) Bool := ⟨12, (Tvs.cons (Tv.agg (Ls.one (Lf.sh (.pair (.int .i64) (.pair (.int .i64) .str))))) Tvs.nil), (Rt.v (Tv.one Lf.bool)), fun n a => laws_FnExactRowText n a.1⟩
def ents : List Ent := [entOf F_laws_szVal, entOf F_laws_szValS, entOf F_laws_szRow, entOf F_laws_toVal, entOf F_laws_toValS, entOf F_laws_toRow, entOf F_spec_l01Num, entOf F_spec_ValOk, entOf F_spec_l01Bool, entOf F_spec_NumText, entOf F_spec_l01Hex, entOf F_spec_ValText, entOf F_spec_l05Vals, entOf F_spec_l05Join, entOf F_spec_RowText, entOf F_impl_within, entOf F_impl_ValOk, entOf F_impl_boolText, entOf F_impl_NumText, entOf F_impl_ValText, entOf F_impl_glued, entOf F_impl_valTexts, entOf F_impl_RowText, entOf F_laws_eqVal, entOf F_laws_eqValS, entOf F_laws_eqRow, entOf F_laws_FnExactRowText]
def callC (n : Nat) : CF := chain ents n
theorem eq_laws_szVal (n : Nat) (a) : evalBodyU env (callC n) n F_laws_szVal.g [] (F_laws_szVal.args.to a) F_laws_szVal.ret.un = F_laws_szVal.run (n + 1) a := by kernel_rfl
theorem eq_laws_szValS (n : Nat) (a) : evalBodyU env (callC n) n F_laws_szValS.g (T_laws_szValS n) (F_laws_szValS.args.to a) F_laws_szValS.ret.un = F_laws_szValS.run (n + 1) a := by kernel_rfl
theorem tab_laws_szValS (n : Nat) : TabOk env (callC n) n F_laws_szValS.g (T_laws_szValS n) F_laws_szValS.ret.un := tabOk (List.forall_mem_cons.mpr ⟨row1_ok (fun _ => rfl) (fun _ _ => by kernel_rfl), List.forall_mem_nil _⟩)
theorem eq_laws_szRow (n : Nat) (a) : evalBodyU env (callC n) n F_laws_szRow.g [] (F_laws_szRow.args.to a) F_laws_szRow.ret.un = F_laws_szRow.run (n + 1) a := by kernel_rfl
theorem eq_laws_toVal (n : Nat) (a) : evalBodyU env (callC n) n F_laws_toVal.g [] (F_laws_toVal.args.to a) F_laws_toVal.ret.un = F_laws_toVal.run (n + 1) a := by kernel_rfl
theorem eq_laws_toValS (n : Nat) (a) : evalBodyU env (callC n) n F_laws_toValS.g (T_laws_toValS n) (F_laws_toValS.args.to a) F_laws_toValS.ret.un = F_laws_toValS.run (n + 1) a := by kernel_rfl
theorem tab_laws_toValS (n : Nat) : TabOk env (callC n) n F_laws_toValS.g (T_laws_toValS n) F_laws_toValS.ret.un := tabOk (List.forall_mem_cons.mpr ⟨row1_ok (fun _ => rfl) (fun _ _ => by kernel_rfl), List.forall_mem_nil _⟩)
theorem eq_laws_toRow (n : Nat) (a) : evalBodyU env (callC n) n F_laws_toRow.g [] (F_laws_toRow.args.to a) F_laws_toRow.ret.un = F_laws_toRow.run (n + 1) a := by kernel_rfl
theorem eq_spec_l01Num (n : Nat) (a) : evalBodyU env (callC n) n F_spec_l01Num.g [] (F_spec_l01Num.args.to a) F_spec_l01Num.ret.un = F_spec_l01Num.run (n + 1) a := by kernel_rfl
theorem eq_spec_ValOk (n : Nat) (a) : evalBodyU env (callC n) n F_spec_ValOk.g [] (F_spec_ValOk.args.to a) F_spec_ValOk.ret.un = F_spec_ValOk.run (n + 1) a := by kernel_rfl
theorem eq_spec_l01Bool (n : Nat) (a) : evalBodyU env (callC n) n F_spec_l01Bool.g [] (F_spec_l01Bool.args.to a) F_spec_l01Bool.ret.un = F_spec_l01Bool.run (n + 1) a := by kernel_rfl
theorem eq_spec_NumText (n : Nat) (a) : evalBodyU env (callC n) n F_spec_NumText.g [] (F_spec_NumText.args.to a) F_spec_NumText.ret.un = F_spec_NumText.run (n + 1) a := by kernel_rfl
theorem eq_spec_l01Hex (n : Nat) (a) : evalBodyU env (callC n) n F_spec_l01Hex.g [] (F_spec_l01Hex.args.to a) F_spec_l01Hex.ret.un = F_spec_l01Hex.run (n + 1) a := by kernel_rfl
theorem eq_spec_ValText (n : Nat) (a) : evalBodyU env (callC n) n F_spec_ValText.g (T_spec_ValText n) (F_spec_ValText.args.to a) F_spec_ValText.ret.un = F_spec_ValText.run (n + 1) a := by kernel_rfl
theorem tab_spec_ValText (n : Nat) : TabOk env (callC n) n F_spec_ValText.g (T_spec_ValText n) F_spec_ValText.ret.un := tabOk (List.forall_mem_cons.mpr ⟨row1_ok (fun _ => rfl) (fun _ _ => by kernel_rfl), List.forall_mem_nil _⟩)
theorem eq_spec_l05Vals (n : Nat) (a) : evalBodyU env (callC n) n F_spec_l05Vals.g (T_spec_l05Vals n) (F_spec_l05Vals.args.to a) F_spec_l05Vals.ret.un = F_spec_l05Vals.run (n + 1) a := by kernel_rfl
theorem tab_spec_l05Vals (n : Nat) : TabOk env (callC n) n F_spec_l05Vals.g (T_spec_l05Vals n) F_spec_l05Vals.ret.un := tabOk (List.forall_mem_cons.mpr ⟨row1_ok (fun _ => rfl) (fun _ _ => by kernel_rfl), List.forall_mem_nil _⟩)
theorem eq_spec_l05Join (n : Nat) (a) : evalBodyU env (callC n) n F_spec_l05Join.g (T_spec_l05Join n) (F_spec_l05Join.args.to a) F_spec_l05Join.ret.un = F_spec_l05Join.run (n + 1) a := by kernel_rfl
theorem tab_spec_l05Join (n : Nat) : TabOk env (callC n) n F_spec_l05Join.g (T_spec_l05Join n) F_spec_l05Join.ret.un := tabOk (List.forall_mem_cons.mpr ⟨row1_ok (fun _ => rfl) (fun _ _ => by kernel_rfl), List.forall_mem_nil _⟩)
theorem eq_spec_RowText (n : Nat) (a) : evalBodyU env (callC n) n F_spec_RowText.g (T_spec_RowText n) (F_spec_RowText.args.to a) F_spec_RowText.ret.un = F_spec_RowText.run (n + 1) a := by kernel_rfl
theorem tab_spec_RowText (n : Nat) : TabOk env (callC n) n F_spec_RowText.g (T_spec_RowText n) F_spec_RowText.ret.un := tabOk (List.forall_mem_cons.mpr ⟨row1_ok (fun _ => rfl) (fun _ _ => by kernel_rfl), List.forall_mem_nil _⟩)
theorem eq_impl_within (n : Nat) (a) : evalBodyU env (callC n) n F_impl_within.g [] (F_impl_within.args.to a) F_impl_within.ret.un = F_impl_within.run (n + 1) a := by kernel_rfl
theorem eq_impl_ValOk (n : Nat) (a) : evalBodyU env (callC n) n F_impl_ValOk.g [] (F_impl_ValOk.args.to a) F_impl_ValOk.ret.un = F_impl_ValOk.run (n + 1) a := by kernel_rfl
theorem eq_impl_boolText (n : Nat) (a) : evalBodyU env (callC n) n F_impl_boolText.g [] (F_impl_boolText.args.to a) F_impl_boolText.ret.un = F_impl_boolText.run (n + 1) a := by kernel_rfl
theorem eq_impl_NumText (n : Nat) (a) : evalBodyU env (callC n) n F_impl_NumText.g (T_impl_NumText n) (F_impl_NumText.args.to a) F_impl_NumText.ret.un = F_impl_NumText.run (n + 1) a := by kernel_rfl
theorem tab_impl_NumText (n : Nat) : TabOk env (callC n) n F_impl_NumText.g (T_impl_NumText n) F_impl_NumText.ret.un := tabOk (List.forall_mem_cons.mpr ⟨row1_ok (fun _ => rfl) (fun _ _ => by kernel_rfl), List.forall_mem_nil _⟩)
theorem eq_impl_ValText (n : Nat) (a) : evalBodyU env (callC n) n F_impl_ValText.g (T_impl_ValText n) (F_impl_ValText.args.to a) F_impl_ValText.ret.un = F_impl_ValText.run (n + 1) a := by kernel_rfl
theorem tab_impl_ValText (n : Nat) : TabOk env (callC n) n F_impl_ValText.g (T_impl_ValText n) F_impl_ValText.ret.un := tabOk (List.forall_mem_cons.mpr ⟨row1_ok (fun _ => rfl) (fun _ _ => by kernel_rfl), List.forall_mem_nil _⟩)
theorem eq_impl_glued (n : Nat) (a) : evalBodyU env (callC n) n F_impl_glued.g (T_impl_glued n) (F_impl_glued.args.to a) F_impl_glued.ret.un = F_impl_glued.run (n + 1) a := by kernel_rfl
theorem tab_impl_glued (n : Nat) : TabOk env (callC n) n F_impl_glued.g (T_impl_glued n) F_impl_glued.ret.un := tabOk (List.forall_mem_cons.mpr ⟨row1_ok (fun _ => rfl) (fun _ _ => by kernel_rfl), List.forall_mem_nil _⟩)
theorem eq_impl_valTexts (n : Nat) (a) : evalBodyU env (callC n) n F_impl_valTexts.g (T_impl_valTexts n) (F_impl_valTexts.args.to a) F_impl_valTexts.ret.un = F_impl_valTexts.run (n + 1) a := by kernel_rfl
theorem tab_impl_valTexts (n : Nat) : TabOk env (callC n) n F_impl_valTexts.g (T_impl_valTexts n) F_impl_valTexts.ret.un := tabOk (List.forall_mem_cons.mpr ⟨row1_ok (fun _ => rfl) (fun _ _ => by kernel_rfl), List.forall_mem_nil _⟩)
theorem eq_impl_RowText (n : Nat) (a) : evalBodyU env (callC n) n F_impl_RowText.g (T_impl_RowText n) (F_impl_RowText.args.to a) F_impl_RowText.ret.un = F_impl_RowText.run (n + 1) a := by kernel_rfl
theorem tab_impl_RowText (n : Nat) : TabOk env (callC n) n F_impl_RowText.g (T_impl_RowText n) F_impl_RowText.ret.un := tabOk (List.forall_mem_cons.mpr ⟨row1_ok (fun _ => rfl) (fun _ _ => by kernel_rfl), List.forall_mem_nil _⟩)
theorem eq_laws_eqVal (n : Nat) (a) : evalBodyU env (callC n) n F_laws_eqVal.g [] (F_laws_eqVal.args.to a) F_laws_eqVal.ret.un = F_laws_eqVal.run (n + 1) a := by kernel_rfl
theorem eq_laws_eqValS (n : Nat) (a) : evalBodyU env (callC n) n F_laws_eqValS.g (T_laws_eqValS n) (F_laws_eqValS.args.to a) F_laws_eqValS.ret.un = F_laws_eqValS.run (n + 1) a := by kernel_rfl
theorem tab_laws_eqValS (n : Nat) : TabOk env (callC n) n F_laws_eqValS.g (T_laws_eqValS n) F_laws_eqValS.ret.un := tabOk (List.forall_mem_cons.mpr ⟨row1_ok (fun _ => rfl) (fun _ _ => by kernel_rfl), List.forall_mem_nil _⟩)
theorem eq_laws_eqRow (n : Nat) (a) : evalBodyU env (callC n) n F_laws_eqRow.g [] (F_laws_eqRow.args.to a) F_laws_eqRow.ret.un = F_laws_eqRow.run (n + 1) a := by kernel_rfl
theorem eq_laws_FnExactRowText (n : Nat) (a) : evalBodyU env (callC n) n F_laws_FnExactRowText.g [] (F_laws_FnExactRowText.args.to a) F_laws_FnExactRowText.ret.un = F_laws_FnExactRowText.run (n + 1) a := by kernel_rfl
structure AllOk (n : Nat) : Prop where
  o_laws_szVal : FnOk Try.prog F_laws_szVal n
  o_laws_szValS : FnOk Try.prog F_laws_szValS n
  o_laws_szRow : FnOk Try.prog F_laws_szRow n
  o_laws_toVal : FnOk Try.prog F_laws_toVal n
  o_laws_toValS : FnOk Try.prog F_laws_toValS n
  o_laws_toRow : FnOk Try.prog F_laws_toRow n
  o_spec_l01Num : FnOk Try.prog F_spec_l01Num n
  o_spec_ValOk : FnOk Try.prog F_spec_ValOk n
  o_spec_l01Bool : FnOk Try.prog F_spec_l01Bool n
  o_spec_NumText : FnOk Try.prog F_spec_NumText n
  o_spec_l01Hex : FnOk Try.prog F_spec_l01Hex n
  o_spec_ValText : FnOk Try.prog F_spec_ValText n
  o_spec_l05Vals : FnOk Try.prog F_spec_l05Vals n
  o_spec_l05Join : FnOk Try.prog F_spec_l05Join n
  o_spec_RowText : FnOk Try.prog F_spec_RowText n
  o_impl_within : FnOk Try.prog F_impl_within n
  o_impl_ValOk : FnOk Try.prog F_impl_ValOk n
  o_impl_boolText : FnOk Try.prog F_impl_boolText n
  o_impl_NumText : FnOk Try.prog F_impl_NumText n
  o_impl_ValText : FnOk Try.prog F_impl_ValText n
  o_impl_glued : FnOk Try.prog F_impl_glued n
  o_impl_valTexts : FnOk Try.prog F_impl_valTexts n
  o_impl_RowText : FnOk Try.prog F_impl_RowText n
  o_laws_eqVal : FnOk Try.prog F_laws_eqVal n
  o_laws_eqValS : FnOk Try.prog F_laws_eqValS n
  o_laws_eqRow : FnOk Try.prog F_laws_eqRow n
  o_laws_FnExactRowText : FnOk Try.prog F_laws_FnExactRowText n
theorem calls_ok {n : Nat} (h : AllOk n) : CFok Try.prog (callC n) := chain_ok (by
  simp only [ents, List.forall_mem_cons, List.not_mem_nil, false_implies, implies_true, and_true]
  exact ⟨entOk_of h.o_laws_szVal, entOk_of h.o_laws_szValS, entOk_of h.o_laws_szRow, entOk_of h.o_laws_toVal, entOk_of h.o_laws_toValS, entOk_of h.o_laws_toRow, entOk_of h.o_spec_l01Num, entOk_of h.o_spec_ValOk, entOk_of h.o_spec_l01Bool, entOk_of h.o_spec_NumText, entOk_of h.o_spec_l01Hex, entOk_of h.o_spec_ValText, entOk_of h.o_spec_l05Vals, entOk_of h.o_spec_l05Join, entOk_of h.o_spec_RowText, entOk_of h.o_impl_within, entOk_of h.o_impl_ValOk, entOk_of h.o_impl_boolText, entOk_of h.o_impl_NumText, entOk_of h.o_impl_ValText, entOk_of h.o_impl_glued, entOk_of h.o_impl_valTexts, entOk_of h.o_impl_RowText, entOk_of h.o_laws_eqVal, entOk_of h.o_laws_eqValS, entOk_of h.o_laws_eqRow, entOk_of h.o_laws_FnExactRowText⟩)
theorem calls_det (n : Nat) : CFdet (callC n) := chain_det (by
  simp only [ents, List.forall_mem_cons, List.not_mem_nil, false_implies, implies_true, and_true]
  exact ⟨entDet F_laws_szVal, entDet F_laws_szValS, entDet F_laws_szRow, entDet F_laws_toVal, entDet F_laws_toValS, entDet F_laws_toRow, entDet F_spec_l01Num, entDet F_spec_ValOk, entDet F_spec_l01Bool, entDet F_spec_NumText, entDet F_spec_l01Hex, entDet F_spec_ValText, entDet F_spec_l05Vals, entDet F_spec_l05Join, entDet F_spec_RowText, entDet F_impl_within, entDet F_impl_ValOk, entDet F_impl_boolText, entDet F_impl_NumText, entDet F_impl_ValText, entDet F_impl_glued, entDet F_impl_valTexts, entDet F_impl_RowText, entDet F_laws_eqVal, entDet F_laws_eqValS, entDet F_laws_eqRow, entDet F_laws_FnExactRowText⟩)
theorem all_ok : ∀ n, AllOk n
  | 0 => ⟨fnOk_zero fun a => rfl, fnOk_zero fun a => rfl, fnOk_zero fun a => rfl, fnOk_zero fun a => rfl, fnOk_zero fun a => rfl, fnOk_zero fun a => rfl, fnOk_zero fun a => rfl, fnOk_zero fun a => rfl, fnOk_zero fun a => rfl, fnOk_zero fun a => rfl, fnOk_zero fun a => rfl, fnOk_zero fun a => rfl, fnOk_zero fun a => rfl, fnOk_zero fun a => rfl, fnOk_zero fun a => rfl, fnOk_zero fun a => rfl, fnOk_zero fun a => rfl, fnOk_zero fun a => rfl, fnOk_zero fun a => rfl, fnOk_zero fun a => rfl, fnOk_zero fun a => rfl, fnOk_zero fun a => rfl, fnOk_zero fun a => rfl, fnOk_zero fun a => rfl, fnOk_zero fun a => rfl, fnOk_zero fun a => rfl, fnOk_zero fun a => rfl⟩
  | n + 1 => ⟨fnOk_succ envOk eqsOk (calls_ok (all_ok n)) (calls_det n) tabOk_nil (eq_laws_szVal n), fnOk_succ envOk eqsOk (calls_ok (all_ok n)) (calls_det n) (tab_laws_szValS n) (eq_laws_szValS n), fnOk_succ envOk eqsOk (calls_ok (all_ok n)) (calls_det n) tabOk_nil (eq_laws_szRow n), fnOk_succ envOk eqsOk (calls_ok (all_ok n)) (calls_det n) tabOk_nil (eq_laws_toVal n), fnOk_succ envOk eqsOk (calls_ok (all_ok n)) (calls_det n) (tab_laws_toValS n) (eq_laws_toValS n), fnOk_succ envOk eqsOk (calls_ok (all_ok n)) (calls_det n) tabOk_nil (eq_laws_toRow n), fnOk_succ envOk eqsOk (calls_ok (all_ok n)) (calls_det n) tabOk_nil (eq_spec_l01Num n), fnOk_succ envOk eqsOk (calls_ok (all_ok n)) (calls_det n) tabOk_nil (eq_spec_ValOk n), fnOk_succ envOk eqsOk (calls_ok (all_ok n)) (calls_det n) tabOk_nil (eq_spec_l01Bool n), fnOk_succ envOk eqsOk (calls_ok (all_ok n)) (calls_det n) tabOk_nil (eq_spec_NumText n), fnOk_succ envOk eqsOk (calls_ok (all_ok n)) (calls_det n) tabOk_nil (eq_spec_l01Hex n), fnOk_succ envOk eqsOk (calls_ok (all_ok n)) (calls_det n) (tab_spec_ValText n) (eq_spec_ValText n), fnOk_succ envOk eqsOk (calls_ok (all_ok n)) (calls_det n) (tab_spec_l05Vals n) (eq_spec_l05Vals n), fnOk_succ envOk eqsOk (calls_ok (all_ok n)) (calls_det n) (tab_spec_l05Join n) (eq_spec_l05Join n), fnOk_succ envOk eqsOk (calls_ok (all_ok n)) (calls_det n) (tab_spec_RowText n) (eq_spec_RowText n), fnOk_succ envOk eqsOk (calls_ok (all_ok n)) (calls_det n) tabOk_nil (eq_impl_within n), fnOk_succ envOk eqsOk (calls_ok (all_ok n)) (calls_det n) tabOk_nil (eq_impl_ValOk n), fnOk_succ envOk eqsOk (calls_ok (all_ok n)) (calls_det n) tabOk_nil (eq_impl_boolText n), fnOk_succ envOk eqsOk (calls_ok (all_ok n)) (calls_det n) (tab_impl_NumText n) (eq_impl_NumText n), fnOk_succ envOk eqsOk (calls_ok (all_ok n)) (calls_det n) (tab_impl_ValText n) (eq_impl_ValText n), fnOk_succ envOk eqsOk (calls_ok (all_ok n)) (calls_det n) (tab_impl_glued n) (eq_impl_glued n), fnOk_succ envOk eqsOk (calls_ok (all_ok n)) (calls_det n) (tab_impl_valTexts n) (eq_impl_valTexts n), fnOk_succ envOk eqsOk (calls_ok (all_ok n)) (calls_det n) (tab_impl_RowText n) (eq_impl_RowText n), fnOk_succ envOk eqsOk (calls_ok (all_ok n)) (calls_det n) tabOk_nil (eq_laws_eqVal n), fnOk_succ envOk eqsOk (calls_ok (all_ok n)) (calls_det n) (tab_laws_eqValS n) (eq_laws_eqValS n), fnOk_succ envOk eqsOk (calls_ok (all_ok n)) (calls_det n) tabOk_nil (eq_laws_eqRow n), fnOk_succ envOk eqsOk (calls_ok (all_ok n)) (calls_det n) tabOk_nil (eq_laws_FnExactRowText n)⟩
end Go.Proofs.Ythfkolhjnioblaa.Ev

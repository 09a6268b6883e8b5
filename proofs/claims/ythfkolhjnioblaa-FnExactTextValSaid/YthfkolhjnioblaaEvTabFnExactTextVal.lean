/- The tables of the law FnExactTextVal: what the evaluator makes of the program is these functions. -/
import Derived.Test.YthfkolhjnioblaaEvFnFnExactTextVal
import Derived.Test.YthfkolhjnioblaaEvHead
import Derived.Test.YthfkolhjnioblaaEvEq
import Derived.Test.YthfkolhjnioblaaChecked
set_option linter.all false
namespace Go.Proofs.Ythfkolhjnioblaa.Ev
open Go Go.Proofs
def bytesT : List (Kd × Nat) := []
def bytesOf (f : Kd) : Nat := ((bytesT.find? fun p => decide (p.1 = f)).map (·.2)).getD 1
theorem bytes_pos (f : Kd) : 1 ≤ bytesOf f := by
  unfold bytesOf
  cases h : bytesT.find? fun p => decide (p.1 = f) with
  | none => exact Nat.le_refl _
  | some p =>
    have hp : ∀ q ∈ bytesT, 1 ≤ q.2 := by decide
    exact hp p (List.mem_of_find?_eq_some h)
noncomputable def env : Env := ⟨[(3, ⟨1, 0, false, [], (.int .i64)⟩),
  (4, ⟨1, 0, false, [], .bool⟩),
  (5, ⟨1, 0, false, [], (.int .u8)⟩),
  (9, ⟨1, 0, false, [], .str⟩),
  (32, ⟨3, 0, true, [(0, 1), (1, 1), (2, 1)], (.pair (.int .i64) (.pair (.int .i64) .str))⟩),
  (35, ⟨1, 1, false, [], (.sl (.int .u8))⟩)],
  [(13, Try.f13), (21, Try.f21), (23, Try.f23), (33, Try.f33), (34, Try.f34), (47, Try.f47), (60, Try.f60), (61, Try.f61), (65, Try.f65), (66, Try.f66), (67, Try.f67), (68, Try.f68), (69, Try.f69), (70, Try.f70), (71, Try.f71), (90, Try.f90), (100, Try.f100), (101, Try.f101), (103, Try.f103), (113, Try.f113)], [], [(21, [(12, ⟨26, []⟩)]), (23, [(11, ⟨26, []⟩)]), (33, [(6, ⟨9, []⟩)]), (34, [(8, ⟨113, []⟩)]), (60, [(10, ⟨405, []⟩)]), (90, [(5, ⟨49, []⟩)]), (100, [(2, ⟨9, []⟩)]), (101, [(3, ⟨49, []⟩)]), (113, [(2, ⟨17, []⟩)])], [32]⟩
theorem envOk : EnvOk Try.prog env := envOk_of (by kernel_rfl) (by
  simp only [env, List.forall_mem_cons, List.not_mem_nil, false_implies, implies_true, and_true]
  exact ⟨⟨Try.func13, by kernel_rfl⟩, ⟨Try.func21, by kernel_rfl⟩, ⟨Try.func23, by kernel_rfl⟩, ⟨Try.func33, by kernel_rfl⟩, ⟨Try.func34, by kernel_rfl⟩, ⟨Try.func47, by kernel_rfl⟩, ⟨Try.func60, by kernel_rfl⟩, ⟨Try.func61, by kernel_rfl⟩, ⟨Try.func65, by kernel_rfl⟩, ⟨Try.func66, by kernel_rfl⟩, ⟨Try.func67, by kernel_rfl⟩, ⟨Try.func68, by kernel_rfl⟩, ⟨Try.func69, by kernel_rfl⟩, ⟨Try.func70, by kernel_rfl⟩, ⟨Try.func71, by kernel_rfl⟩, ⟨Try.func90, by kernel_rfl⟩, ⟨Try.func100, by kernel_rfl⟩, ⟨Try.func101, by kernel_rfl⟩, ⟨Try.func103, by kernel_rfl⟩, ⟨Try.func113, by kernel_rfl⟩⟩) (by kernel_rfl)
theorem eqsOk : EqsOk Try.prog env := eqsOk_of (by kernel_rfl)
def F_spec_l01Num : Fn' (Int × Unit) Bool := ⟨103, (Tvs.cons (Tv.one (Lf.int .i64)) Tvs.nil), (Rt.v (Tv.one Lf.bool)), fun n a => spec_l01Num n a.1⟩
def F_spec_NumText : Fn' (Int × Unit) ByteArray := ⟨67, (Tvs.cons (Tv.one (Lf.int .i64)) Tvs.nil), (Rt.v (Tv.one Lf.str)), fun n a => spec_NumText n a.1⟩
def F_spec_TextNum : Fn' (ByteArray × Unit) (Int × (Bool × Unit)) := ⟨90, (Tvs.cons (Tv.one Lf.str) Tvs.nil), (Rt.tup (Tvs.cons (Tv.one (Lf.int .i64)) (Tvs.cons (Tv.one Lf.bool) Tvs.nil))), fun n a => spec_TextNum n a.1⟩
def S_spec_TextNum_L1 := Sh.of (Sl.one Lf.str (Sl.gap 3 (Sl.one (Lf.int .i64) (Sl.one (Lf.int .i64) (Sl.gap 49 Sl.nil))))) Rw.nil Ls.nil
def T_spec_TextNum (n : Nat) : Tab (Int × (Bool × Unit)) := [([.b, .r, .l, .r, .r, .r], row1 S_spec_TextNum_L1 fun j a => spec_TextNum_L1 n j a.1.1 a.1.2.1 a.1.2.2.1)]
def F_spec_l01Hex : Fn' (Int × Unit) Int := ⟨68, (Tvs.cons (Tv.one (Lf.int .i64)) Tvs.nil), (Rt.v (Tv.one (Lf.int .u8))), fun n a => spec_l01Hex n a.1⟩
def F_spec_l01Half : Fn' (Int × Unit) Int := ⟨100, (Tvs.cons (Tv.one (Lf.int .u8)) Tvs.nil), (Rt.v (Tv.one (Lf.int .i64))), fun n a => spec_l01Half n a.1⟩
def S_spec_l01Half_L1 := Sh.of (Sl.one (Lf.int .u8) (Sl.gap 2 (Sl.one (Lf.int .i64) (Sl.gap 9 Sl.nil)))) Rw.nil Ls.nil
def T_spec_l01Half (n : Nat) : Tab Int := [([.b, .r, .l, .r], row1 S_spec_l01Half_L1 fun j a => spec_l01Half_L1 n j a.1.1 a.1.2.1)]
def F_spec_ValOk : Fn' ((Int × (Int × ByteArray)) × Unit) Bool := ⟨65, (Tvs.cons (Tv.agg (Ls.cons (Lf.int .i64) (Ls.cons (Lf.int .i64) (Ls.one Lf.str)))) Tvs.nil), (Rt.v (Tv.one Lf.bool)), fun n a => spec_ValOk n a.1.1 a.1.2.1 a.1.2.2⟩
def F_spec_l01Bool : Fn' (Int × Unit) ByteArray := ⟨66, (Tvs.cons (Tv.one (Lf.int .i64)) Tvs.nil), (Rt.v (Tv.one Lf.str)), fun n a => spec_l01Bool n a.1⟩
def F_spec_ValText : Fn' ((Int × (Int × ByteArray)) × Unit) ByteArray := ⟨21, (Tvs.cons (Tv.agg (Ls.cons (Lf.int .i64) (Ls.cons (Lf.int .i64) (Ls.one Lf.str)))) Tvs.nil), (Rt.v (Tv.one Lf.str)), fun n a => spec_ValText n a.1.1 a.1.2.1 a.1.2.2⟩
def S_spec_ValText_L1 := Sh.of (Sl.gap 1 (Sl.k (Kf.box 104 0) (Sl.gap 1 (Sl.k (Kf.ow 232) (Sl.one (Lf.int .i64) (Sl.gap 63 Sl.nil)))))) (Rw.box 104 (.pair (.int .i64) (.pair (.int .i64) .str)) (Ls.cons (Lf.int .i64) (Ls.cons (Lf.int .i64) (Ls.cons Lf.str Ls.nil))) (Rw.data 232 (.int .u8) Rw.nil)) Ls.nil
def T_spec_ValText (n : Nat) : Tab ByteArray := [([.b, .r, .l, .r, .r, .r, .r], row1 S_spec_ValText_L1 fun j a => spec_ValText_L1 n j a.1.1 a.2.1.1 a.2.1.2.1 a.2.1.2.2.1 a.2.2.1)]
def F_spec_TextVal : Fn' (ByteArray × Unit) ((Int × (Int × ByteArray)) × (Bool × Unit)) := ⟨60, (Tvs.cons (Tv.one Lf.str) Tvs.nil), (Rt.tup (Tvs.cons (Tv.agg (Ls.cons (Lf.int .i64) (Ls.cons (Lf.int .i64) (Ls.one Lf.str)))) (Tvs.cons (Tv.one Lf.bool) Tvs.nil))), fun n a => spec_TextVal n a.1⟩
def S_spec_TextVal_L1 := Sh.of (Sl.one Lf.str (Sl.gap 1 (Sl.k (Kf.box 168 0) (Sl.gap 1 (Sl.k (Kf.box 296 0) (Sl.gap 2 (Sl.k (Kf.ow 488) (Sl.one (Lf.int .i64) (Sl.gap 84 Sl.nil))))))))) (Rw.box 168 (.pair (.int .i64) (.pair (.int .i64) .str)) (Ls.cons (Lf.int .i64) (Ls.cons (Lf.int .i64) (Ls.cons Lf.str Ls.nil))) (Rw.box 296 (.pair (.int .i64) (.pair (.int .i64) .str)) (Ls.cons (Lf.int .i64) (Ls.cons (Lf.int .i64) (Ls.cons Lf.str Ls.nil))) (Rw.data 488 (.int .u8) Rw.nil))) Ls.nil
def T_spec_TextVal (n : Nat) : Tab ((Int × (Int × ByteArray)) × (Bool × Unit)) := [([.b, .r, .l, .r, .t, .r, .l, .r, .r, .r, .r, .r], row1 S_spec_TextVal_L1 fun j a => spec_TextVal_L1 n j a.1.1 a.1.2.1 a.2.1.1 a.2.1.2.1 a.2.1.2.2.1 a.2.2.1.1 a.2.2.1.2.1 a.2.2.1.2.2.1 a.2.2.2.1)]
def F_impl_within : Fn' (Int × (Int × (Int × Unit))) Bool := ⟨71, (Tvs.cons (Tv.one (Lf.int .i64)) (Tvs.cons (Tv.one (Lf.int .i64)) (Tvs.cons (Tv.one (Lf.int .i64)) Tvs.nil))), (Rt.v (Tv.one Lf.bool)), fun n a => impl_within n a.1 a.2.1 a.2.2.1⟩
def F_impl_ValOk : Fn' ((Int × (Int × ByteArray)) × Unit) Bool := ⟨69, (Tvs.cons (Tv.agg (Ls.cons (Lf.int .i64) (Ls.cons (Lf.int .i64) (Ls.one Lf.str)))) Tvs.nil), (Rt.v (Tv.one Lf.bool)), fun n a => impl_ValOk n a.1.1 a.1.2.1 a.1.2.2⟩
def F_impl_boolText : Fn' (Int × Unit) ByteArray := ⟨70, (Tvs.cons (Tv.one (Lf.int .i64)) Tvs.nil), (Rt.v (Tv.one Lf.str)), fun n a => impl_boolText n a.1⟩
def F_impl_NumText : Fn' (Int × Unit) ByteArray := ⟨33, (Tvs.cons (Tv.one (Lf.int .i64)) Tvs.nil), (Rt.v (Tv.one Lf.str)), fun n a => impl_NumText n a.1⟩
def S_impl_NumText_L1 := Sh.of (Sl.one (Lf.int .i64) (Sl.gap 2 (Sl.one Lf.str (Sl.gap 28 Sl.nil)))) Rw.nil Ls.nil
def T_impl_NumText (n : Nat) : Tab ByteArray := [([.b, .l, .r, .r, .r, .r], row1 S_impl_NumText_L1 fun j a => impl_NumText_L1 n j a.1.1 a.1.2.1)]
def F_impl_ValText : Fn' ((Int × (Int × ByteArray)) × Unit) ByteArray := ⟨23, (Tvs.cons (Tv.agg (Ls.cons (Lf.int .i64) (Ls.cons (Lf.int .i64) (Ls.one Lf.str)))) Tvs.nil), (Rt.v (Tv.one Lf.str)), fun n a => impl_ValText n a.1.1 a.1.2.1 a.1.2.2⟩
def S_impl_ValText_L1 := Sh.of (Sl.gap 1 (Sl.k (Kf.box 104 0) (Sl.gap 1 (Sl.k (Kf.ow 232) (Sl.one (Lf.int .i64) (Sl.gap 63 Sl.nil)))))) (Rw.box 104 (.pair (.int .i64) (.pair (.int .i64) .str)) (Ls.cons (Lf.int .i64) (Ls.cons (Lf.int .i64) (Ls.cons Lf.str Ls.nil))) (Rw.data 232 (.int .u8) Rw.nil)) Ls.nil
def T_impl_ValText (n : Nat) : Tab ByteArray := [([.b, .r, .l, .r, .r, .r], row1 S_impl_ValText_L1 fun j a => impl_ValText_L1 n j a.1.1 a.2.1.1 a.2.1.2.1 a.2.1.2.2.1 a.2.2.1)]
def F_impl_figure : Fn' (Int × Unit) Int := ⟨113, (Tvs.cons (Tv.one (Lf.int .u8)) Tvs.nil), (Rt.v (Tv.one (Lf.int .i64))), fun n a => impl_figure n a.1⟩
def S_impl_figure_L1 := Sh.of (Sl.one (Lf.int .u8) (Sl.gap 3 (Sl.one (Lf.int .i64) (Sl.gap 8 Sl.nil)))) Rw.nil Ls.nil
def T_impl_figure (n : Nat) : Tab Int := [([.b, .r, .l, .r], row1 S_impl_figure_L1 fun j a => impl_figure_L1 n j a.1.1 a.1.2.1)]
def F_impl_quoted : Fn' (ByteArray × Unit) (ByteArray × (Bool × Unit)) := ⟨101, (Tvs.cons (Tv.one Lf.str) Tvs.nil), (Rt.tup (Tvs.cons (Tv.one Lf.str) (Tvs.cons (Tv.one Lf.bool) Tvs.nil))), fun n a => impl_quoted n a.1⟩
def S_impl_quoted_L1 := Sh.of (Sl.one Lf.str (Sl.gap 3 (Sl.k (Kf.ow 296) (Sl.one (Lf.int .i64) (Sl.gap 52 Sl.nil))))) (Rw.data 296 (.int .u8) Rw.nil) Ls.nil
def T_impl_quoted (n : Nat) : Tab (ByteArray × (Bool × Unit)) := [([.b, .r, .l, .r, .r], row1 S_impl_quoted_L1 fun j a => impl_quoted_L1 n j a.1.1 a.1.2.1 a.2.1)]
def F_impl_TextNum : Fn' (ByteArray × Unit) (Int × (Bool × Unit)) := ⟨34, (Tvs.cons (Tv.one Lf.str) Tvs.nil), (Rt.tup (Tvs.cons (Tv.one (Lf.int .i64)) (Tvs.cons (Tv.one Lf.bool) Tvs.nil))), fun n a => impl_TextNum n a.1⟩
def S_impl_TextNum_L1 := Sh.of (Sl.one Lf.str (Sl.gap 3 (Sl.one (Lf.int .i64) (Sl.one (Lf.int .i64) (Sl.one (Lf.int .i64) (Sl.gap 48 Sl.nil)))))) Rw.nil Ls.nil
def T_impl_TextNum (n : Nat) : Tab (Int × (Bool × Unit)) := [([.b, .r, .l, .r, .r, .r, .r, .r], row1 S_impl_TextNum_L1 fun j a => impl_TextNum_L1 n j a.1.1 a.1.2.1 a.1.2.2.1 a.1.2.2.2.1)]
def F_impl_TextVal : Fn' (ByteArray × Unit) ((Int × (Int × ByteArray)) × (Bool × Unit)) := ⟨61, (Tvs.cons (Tv.one Lf.str) Tvs.nil), (Rt.tup (Tvs.cons (Tv.agg (Ls.cons (Lf.int .i64) (Ls.cons (Lf.int .i64) (Ls.one Lf.str)))) (Tvs.cons (Tv.one Lf.bool) Tvs.nil))), fun n a => impl_TextVal n a.1⟩
def F_laws_eqVal : Fn' ((Int × (Int × ByteArray)) × ((Int × (Int × ByteArray)) × Unit)) Bool := ⟨47, (Tvs.cons (Tv.agg (Ls.cons (Lf.int .i64) (Ls.cons (Lf.int .i64) (Ls.one Lf.str)))) (Tvs.cons (Tv.agg (Ls.cons (Lf.int .i64) (Ls.cons (Lf.int .i64) (Ls.one Lf.str)))) Tvs.nil)), (Rt.v (Tv.one Lf.bool)), fun n a => laws_eqVal n a.1.1 a.1.2.1 a.1.2.2 a.2.1.1 a.2.1.2.1 a.2.1.2.2⟩
def F_laws_FnExactTextVal : Fn' (ByteArray × Unit) Bool := ⟨13, (Tvs.cons (Tv.one Lf.str) Tvs.nil), (Rt.v (Tv.one Lf.bool)), fun n a => laws_FnExactTextVal n a.1⟩
def ents : List Ent := [entOf F_spec_l01Num, entOf F_spec_NumText, entOf F_spec_TextNum, entOf F_spec_l01Hex, entOf F_spec_l01Half, entOf F_spec_ValOk, entOf F_spec_l01Bool, entOf F_spec_ValText, entOf F_spec_TextVal, entOf F_impl_within, entOf F_impl_ValOk, entOf F_impl_boolText, entOf F_impl_NumText, entOf F_impl_ValText, entOf F_impl_figure, entOf F_impl_quoted, entOf F_impl_TextNum, entOf F_impl_TextVal, entOf F_laws_eqVal, entOf F_laws_FnExactTextVal]
def callC (n : Nat) : CF := chain ents n
theorem eq_spec_l01Num (n : Nat) (a) : evalBodyU env (callC n) n F_spec_l01Num.g [] (F_spec_l01Num.args.to a) F_spec_l01Num.ret.un = F_spec_l01Num.run (n + 1) a := by kernel_rfl
theorem eq_spec_NumText (n : Nat) (a) : evalBodyU env (callC n) n F_spec_NumText.g [] (F_spec_NumText.args.to a) F_spec_NumText.ret.un = F_spec_NumText.run (n + 1) a := by kernel_rfl
theorem eq_spec_TextNum (n : Nat) (a) : evalBodyU env (callC n) n F_spec_TextNum.g (T_spec_TextNum n) (F_spec_TextNum.args.to a) F_spec_TextNum.ret.un = F_spec_TextNum.run (n + 1) a := by kernel_rfl
theorem tab_spec_TextNum (n : Nat) : TabOk env (callC n) n F_spec_TextNum.g (T_spec_TextNum n) F_spec_TextNum.ret.un := tabOk (List.forall_mem_cons.mpr ⟨row1_ok (fun _ => rfl) (fun _ _ => by kernel_rfl), List.forall_mem_nil _⟩)
theorem eq_spec_l01Hex (n : Nat) (a) : evalBodyU env (callC n) n F_spec_l01Hex.g [] (F_spec_l01Hex.args.to a) F_spec_l01Hex.ret.un = F_spec_l01Hex.run (n + 1) a := by kernel_rfl
theorem eq_spec_l01Half (n : Nat) (a) : evalBodyU env (callC n) n F_spec_l01Half.g (T_spec_l01Half n) (F_spec_l01Half.args.to a) F_spec_l01Half.ret.un = F_spec_l01Half.run (n + 1) a := by kernel_rfl
theorem tab_spec_l01Half (n : Nat) : TabOk env (callC n) n F_spec_l01Half.g (T_spec_l01Half n) F_spec_l01Half.ret.un := tabOk (List.forall_mem_cons.mpr ⟨row1_ok (fun _ => rfl) (fun _ _ => by kernel_rfl), List.forall_mem_nil _⟩)
theorem eq_spec_ValOk (n : Nat) (a) : evalBodyU env (callC n) n F_spec_ValOk.g [] (F_spec_ValOk.args.to a) F_spec_ValOk.ret.un = F_spec_ValOk.run (n + 1) a := by kernel_rfl
theorem eq_spec_l01Bool (n : Nat) (a) : evalBodyU env (callC n) n F_spec_l01Bool.g [] (F_spec_l01Bool.args.to a) F_spec_l01Bool.ret.un = F_spec_l01Bool.run (n + 1) a := by kernel_rfl
theorem eq_spec_ValText (n : Nat) (a) : evalBodyU env (callC n) n F_spec_ValText.g (T_spec_ValText n) (F_spec_ValText.args.to a) F_spec_ValText.ret.un = F_spec_ValText.run (n + 1) a := by kernel_rfl
theorem tab_spec_ValText (n : Nat) : TabOk env (callC n) n F_spec_ValText.g (T_spec_ValText n) F_spec_ValText.ret.un := tabOk (List.forall_mem_cons.mpr ⟨row1_ok (fun _ => rfl) (fun _ _ => by kernel_rfl), List.forall_mem_nil _⟩)
theorem eq_spec_TextVal (n : Nat) (a) : evalBodyU env (callC n) n F_spec_TextVal.g (T_spec_TextVal n) (F_spec_TextVal.args.to a) F_spec_TextVal.ret.un = F_spec_TextVal.run (n + 1) a := by kernel_rfl
theorem tab_spec_TextVal (n : Nat) : TabOk env (callC n) n F_spec_TextVal.g (T_spec_TextVal n) F_spec_TextVal.ret.un := tabOk (List.forall_mem_cons.mpr ⟨row1_ok (fun _ => rfl) (fun _ _ => by kernel_rfl), List.forall_mem_nil _⟩)
theorem eq_impl_within (n : Nat) (a) : evalBodyU env (callC n) n F_impl_within.g [] (F_impl_within.args.to a) F_impl_within.ret.un = F_impl_within.run (n + 1) a := by kernel_rfl
theorem eq_impl_ValOk (n : Nat) (a) : evalBodyU env (callC n) n F_impl_ValOk.g [] (F_impl_ValOk.args.to a) F_impl_ValOk.ret.un = F_impl_ValOk.run (n + 1) a := by kernel_rfl
theorem eq_impl_boolText (n : Nat) (a) : evalBodyU env (callC n) n F_impl_boolText.g [] (F_impl_boolText.args.to a) F_impl_boolText.ret.un = F_impl_boolText.run (n + 1) a := by kernel_rfl
theorem eq_impl_NumText (n : Nat) (a) : evalBodyU env (callC n) n F_impl_NumText.g (T_impl_NumText n) (F_impl_NumText.args.to a) F_impl_NumText.ret.un = F_impl_NumText.run (n + 1) a := by kernel_rfl
theorem tab_impl_NumText (n : Nat) : TabOk env (callC n) n F_impl_NumText.g (T_impl_NumText n) F_impl_NumText.ret.un := tabOk (List.forall_mem_cons.mpr ⟨row1_ok (fun _ => rfl) (fun _ _ => by kernel_rfl), List.forall_mem_nil _⟩)
theorem eq_impl_ValText (n : Nat) (a) : evalBodyU env (callC n) n F_impl_ValText.g (T_impl_ValText n) (F_impl_ValText.args.to a) F_impl_ValText.ret.un = F_impl_ValText.run (n + 1) a := by kernel_rfl
theorem tab_impl_ValText (n : Nat) : TabOk env (callC n) n F_impl_ValText.g (T_impl_ValText n) F_impl_ValText.ret.un := tabOk (List.forall_mem_cons.mpr ⟨row1_ok (fun _ => rfl) (fun _ _ => by kernel_rfl), List.forall_mem_nil _⟩)
theorem eq_impl_figure (n : Nat) (a) : evalBodyU env (callC n) n F_impl_figure.g (T_impl_figure n) (F_impl_figure.args.to a) F_impl_figure.ret.un = F_impl_figure.run (n + 1) a := by kernel_rfl
theorem tab_impl_figure (n : Nat) : TabOk env (callC n) n F_impl_figure.g (T_impl_figure n) F_impl_figure.ret.un := tabOk (List.forall_mem_cons.mpr ⟨row1_ok (fun _ => rfl) (fun _ _ => by kernel_rfl), List.forall_mem_nil _⟩)
theorem eq_impl_quoted (n : Nat) (a) : evalBodyU env (callC n) n F_impl_quoted.g (T_impl_quoted n) (F_impl_quoted.args.to a) F_impl_quoted.ret.un = F_impl_quoted.run (n + 1) a := by kernel_rfl
theorem tab_impl_quoted (n : Nat) : TabOk env (callC n) n F_impl_quoted.g (T_impl_quoted n) F_impl_quoted.ret.un := tabOk (List.forall_mem_cons.mpr ⟨row1_ok (fun _ => rfl) (fun _ _ => by kernel_rfl), List.forall_mem_nil _⟩)
theorem eq_impl_TextNum (n : Nat) (a) : evalBodyU env (callC n) n F_impl_TextNum.g (T_impl_TextNum n) (F_impl_TextNum.args.to a) F_impl_TextNum.ret.un = F_impl_TextNum.run (n + 1) a := by kernel_rfl
theorem tab_impl_TextNum (n : Nat) : TabOk env (callC n) n F_impl_TextNum.g (T_impl_TextNum n) F_impl_TextNum.ret.un := tabOk (List.forall_mem_cons.mpr ⟨row1_ok (fun _ => rfl) (fun _ _ => by kernel_rfl), List.forall_mem_nil _⟩)
theorem eq_impl_TextVal (n : Nat) (a) : evalBodyU env (callC n) n F_impl_TextVal.g [] (F_impl_TextVal.args.to a) F_impl_TextVal.ret.un = F_impl_TextVal.run (n + 1) a := by kernel_rfl
theorem eq_laws_eqVal (n : Nat) (a) : evalBodyU env (callC n) n F_laws_eqVal.g [] (F_laws_eqVal.args.to a) F_laws_eqVal.ret.un = F_laws_eqVal.run (n + 1) a := by kernel_rfl
theorem eq_laws_FnExactTextVal (n : Nat) (a) : evalBodyU env (callC n) n F_laws_FnExactTextVal.g [] (F_laws_FnExactTextVal.args.to a) F_laws_FnExactTextVal.ret.un = F_laws_FnExactTextVal.run (n + 1) a := by kernel_rfl
structure AllOk (n : Nat) : Prop where
  o_spec_l01Num : FnOk Try.prog F_spec_l01Num n
  o_spec_NumText : FnOk Try.prog F_spec_NumText n
  o_spec_TextNum : FnOk Try.prog F_spec_TextNum n
  o_spec_l01Hex : FnOk Try.prog F_spec_l01Hex n
  o_spec_l01Half : FnOk Try.prog F_spec_l01Half n
  o_spec_ValOk : FnOk Try.prog F_spec_ValOk n
  o_spec_l01Bool : FnOk Try.prog F_spec_l01Bool n
  o_spec_ValText : FnOk Try.prog F_spec_ValText n
  o_spec_TextVal : FnOk Try.prog F_spec_TextVal n
  o_impl_within : FnOk Try.prog F_impl_within n
  o_impl_ValOk : FnOk Try.prog F_impl_ValOk n
  o_impl_boolText : FnOk Try.prog F_impl_boolText n
  o_impl_NumText : FnOk Try.prog F_impl_NumText n
  o_impl_ValText : FnOk Try.prog F_impl_ValText n
  o_impl_figure : FnOk Try.prog F_impl_figure n
  o_impl_quoted : FnOk Try.prog F_impl_quoted n
  o_impl_TextNum : FnOk Try.prog F_impl_TextNum n
  o_impl_TextVal : FnOk Try.prog F_impl_TextVal n
  o_laws_eqVal : FnOk Try.prog F_laws_eqVal n
  o_laws_FnExactTextVal : FnOk Try.prog F_laws_FnExactTextVal n
theorem calls_ok {n : Nat} (h : AllOk n) : CFok Try.prog (callC n) := chain_ok (by
  simp only [ents, List.forall_mem_cons, List.not_mem_nil, false_implies, implies_true, and_true]
  exact ⟨entOk_of h.o_spec_l01Num, entOk_of h.o_spec_NumText, entOk_of h.o_spec_TextNum, entOk_of h.o_spec_l01Hex, entOk_of h.o_spec_l01Half, entOk_of h.o_spec_ValOk, entOk_of h.o_spec_l01Bool, entOk_of h.o_spec_ValText, entOk_of h.o_spec_TextVal, entOk_of h.o_impl_within, entOk_of h.o_impl_ValOk, entOk_of h.o_impl_boolText, entOk_of h.o_impl_NumText, entOk_of h.o_impl_ValText, entOk_of h.o_impl_figure, entOk_of h.o_impl_quoted, entOk_of h.o_impl_TextNum, entOk_of h.o_impl_TextVal, entOk_of h.o_laws_eqVal, entOk_of h.o_laws_FnExactTextVal⟩)
theorem calls_det (n : Nat) : CFdet (callC n) := chain_det (by
  simp only [ents, List.forall_mem_cons, List.not_mem_nil, false_implies, implies_true, and_true]
  exact ⟨entDet F_spec_l01Num, entDet F_spec_NumText, entDet F_spec_TextNum, entDet F_spec_l01Hex, entDet F_spec_l01Half, entDet F_spec_ValOk, entDet F_spec_l01Bool, entDet F_spec_ValText, entDet F_spec_TextVal, entDet F_impl_within, entDet F_impl_ValOk, entDet F_impl_boolText, entDet F_impl_NumText, entDet F_impl_ValText, entDet F_impl_figure, entDet F_impl_quoted, entDet F_impl_TextNum, entDet F_impl_TextVal, entDet F_laws_eqVal, entDet F_laws_FnExactTextVal⟩)
theorem all_ok : ∀ n, AllOk n
  | 0 => ⟨fnOk_zero fun a => rfl, fnOk_zero fun a => rfl, fnOk_zero fun a => rfl, fnOk_zero fun a => rfl, fnOk_zero fun a => rfl, fnOk_zero fun a => rfl, fnOk_zero fun a => rfl, fnOk_zero fun a => rfl, fnOk_zero fun a => rfl, fnOk_zero fun a => rfl, fnOk_zero fun a => rfl, fnOk_zero fun a => rfl, fnOk_zero fun a => rfl, fnOk_zero fun a => rfl, fnOk_zero fun a => rfl, fnOk_zero fun a => rfl, fnOk_zero fun a => rfl, fnOk_zero fun a => rfl, fnOk_zero fun a => rfl, fnOk_zero fun a => rfl⟩
  | n + 1 => ⟨fnOk_succ envOk eqsOk (calls_ok (all_ok n)) (calls_det n) tabOk_nil (eq_spec_l01Num n), fnOk_succ envOk eqsOk (calls_ok (all_ok n)) (calls_det n) tabOk_nil (eq_spec_NumText n), fnOk_succ envOk eqsOk (calls_ok (all_ok n)) (calls_det n) (tab_spec_TextNum n) (eq_spec_TextNum n), fnOk_succ envOk eqsOk (calls_ok (all_ok n)) (calls_det n) tabOk_nil (eq_spec_l01Hex n), fnOk_succ envOk eqsOk (calls_ok (all_ok n)) (calls_det n) (tab_spec_l01Half n) (eq_spec_l01Half n), fnOk_succ envOk eqsOk (calls_ok (all_ok n)) (calls_det n) tabOk_nil (eq_spec_ValOk n), fnOk_succ envOk eqsOk (calls_ok (all_ok n)) (calls_det n) tabOk_nil (eq_spec_l01Bool n), fnOk_succ envOk eqsOk (calls_ok (all_ok n)) (calls_det n) (tab_spec_ValText n) (eq_spec_ValText n), fnOk_succ envOk eqsOk (calls_ok (all_ok n)) (calls_det n) (tab_spec_TextVal n) (eq_spec_TextVal n), fnOk_succ envOk eqsOk (calls_ok (all_ok n)) (calls_det n) tabOk_nil (eq_impl_within n), fnOk_succ envOk eqsOk (calls_ok (all_ok n)) (calls_det n) tabOk_nil (eq_impl_ValOk n), fnOk_succ envOk eqsOk (calls_ok (all_ok n)) (calls_det n) tabOk_nil (eq_impl_boolText n), fnOk_succ envOk eqsOk (calls_ok (all_ok n)) (calls_det n) (tab_impl_NumText n) (eq_impl_NumText n), fnOk_succ envOk eqsOk (calls_ok (all_ok n)) (calls_det n) (tab_impl_ValText n) (eq_impl_ValText n), fnOk_succ envOk eqsOk (calls_ok (all_ok n)) (calls_det n) (tab_impl_figure n) (eq_impl_figure n), fnOk_succ envOk eqsOk (calls_ok (all_ok n)) (calls_det n) (tab_impl_quoted n) (eq_impl_quoted n), fnOk_succ envOk eqsOk (calls_ok (all_ok n)) (calls_det n) (tab_impl_TextNum n) (eq_impl_TextNum n), fnOk_succ envOk eqsOk (calls_ok (all_ok n)) (calls_det n) tabOk_nil (eq_impl_TextVal n), fnOk_succ envOk eqsOk (calls_ok (all_ok n)) (calls_det n) tabOk_nil (eq_laws_eqVal n), fnOk_succ envOk eqsOk (calls_ok (all_ok n)) (calls_det n) tabOk_nil (eq_laws_FnExactTextVal n)⟩
end Go.Proofs.Ythfkolhjnioblaa.Ev

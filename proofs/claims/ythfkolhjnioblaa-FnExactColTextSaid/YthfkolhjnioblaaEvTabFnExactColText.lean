/- The tables of the law FnExactColText: what the evaluator makes of the program is these functions. -/
import Derived.Test.YthfkolhjnioblaaEvFnFnExactColText
import Derived.Test.YthfkolhjnioblaaEvHead
import Derived.Test.YthfkolhjnioblaaEvEq
import Derived.Test.YthfkolhjnioblaaChecked
set_option linter.all false
namespace Go.Proofs.Ythfkolhjnioblaa.Ev
open Go Go.Proofs
def bytesT : List (Kd × Nat) := []
def bytesOf (f : Kd) : Nat := ((bytesT.find? fun p => decide (p.1 = f)).map (·.2)).getD 1
theorem bytes_pos (f : Kd) : 1 ≤ bytesOf f := by
  unfold bytesOf
  cases h : bytesT.find? fun p => decide (p.1 = f) with
  | none => exact Nat.le_refl _
  | some p =>
    have hp : ∀ q ∈ bytesT, 1 ≤ q.2 := by decide
    exact hp p (List.mem_of_find?_eq_some h)
noncomputable def env : Env := ⟨[(3, ⟨1, 0, false, [], (.int .i64)⟩),
  (4, ⟨1, 0, false, [], .bool⟩),
  (5, ⟨1, 0, false, [], (.int .u8)⟩),
  (9, ⟨1, 0, false, [], .str⟩),
  (29, ⟨3, 0, true, [(0, 1), (1, 1), (2, 1)], (.pair (.int .i64) (.pair (.int .i64) .str))⟩),
  (32, ⟨3, 0, true, [(0, 1), (1, 1), (2, 1)], (.pair (.int .i64) (.pair (.int .i64) .str))⟩),
  (35, ⟨1, 1, false, [], (.sl (.int .u8))⟩),
  (55, ⟨1, 16, false, [], (.sl .str)⟩),
  (71, ⟨7, 0, true, [(0, 1), (1, 1), (2, 1), (3, 1), (4, 3)], (.pair .str (.pair (.int .i64) (.pair .bool (.pair .bool (.pair (.int .i64) (.pair (.int .i64) .str))))))⟩),
  (75, ⟨7, 0, true, [(0, 1), (1, 1), (2, 1), (3, 1), (4, 3)], (.pair .str (.pair (.int .i64) (.pair .bool (.pair .bool (.pair (.int .i64) (.pair (.int .i64) .str))))))⟩)],
  [(10, Try.f10), (20, Try.f20), (21, Try.f21), (22, Try.f22), (23, Try.f23), (33, Try.f33), (48, Try.f48), (49, Try.f49), (50, Try.f50), (51, Try.f51), (65, Try.f65), (66, Try.f66), (67, Try.f67), (68, Try.f68), (69, Try.f69), (70, Try.f70), (71, Try.f71), (91, Try.f91), (92, Try.f92), (93, Try.f93), (94, Try.f94), (95, Try.f95), (103, Try.f103), (109, Try.f109), (110, Try.f110), (111, Try.f111)], [], [(21, [(12, ⟨26, []⟩)]), (23, [(11, ⟨26, []⟩)]), (33, [(6, ⟨9, []⟩)]), (92, [(3, ⟨456, []⟩)]), (109, [(2, ⟨9, []⟩)]), (111, [(2, ⟨9, []⟩)])], [32]⟩
theorem envOk : EnvOk Try.prog env := envOk_of (by kernel_rfl) (by
  simp only [env, List.forall_mem_cons, List.not_mem_nil, false_implies, implies_true, and_true]
  exact ⟨⟨Try.func10, by kernel_rfl⟩, ⟨Try.func20, by kernel_rfl⟩, ⟨Try.func21, by kernel_rfl⟩, ⟨Try.func22, by kernel_rfl⟩, ⟨Try.func23, by kernel_rfl⟩, ⟨Try.func33, by kernel_rfl⟩, ⟨Try.func48, by kernel_rfl⟩, ⟨Try.func49, by kernel_rfl⟩, ⟨Try.func50, by kernel_rfl⟩, ⟨Try.func51, by kernel_rfl⟩, ⟨Try.func65, by kernel_rfl⟩, ⟨Try.func66, by kernel_rfl⟩, ⟨Try.func67, by kernel_rfl⟩, ⟨Try.func68, by kernel_rfl⟩, ⟨Try.func69, by kernel_rfl⟩, ⟨Try.func70, by kernel_rfl⟩, ⟨Try.func71, by kernel_rfl⟩, ⟨Try.func91, by kernel_rfl⟩, ⟨Try.func92, by kernel_rfl⟩, ⟨Try.func93, by kernel_rfl⟩, ⟨Try.func94, by kernel_rfl⟩, ⟨Try.func95, by kernel_rfl⟩, ⟨Try.func103, by kernel_rfl⟩, ⟨Try.func109, by kernel_rfl⟩, ⟨Try.func110, by kernel_rfl⟩, ⟨Try.func111, by kernel_rfl⟩⟩) (by kernel_rfl)
theorem eqsOk : EqsOk Try.prog env := eqsOk_of (by kernel_rfl)
def F_laws_szVal : Fn' ((Int × (Int × ByteArray)) × (Int × Unit)) Int := ⟨20, (Tvs.cons (Tv.agg (Ls.cons (Lf.int .i64) (Ls.cons (Lf.int .i64) (Ls.one Lf.str)))) (Tvs.cons (Tv.one (Lf.int .i64)) Tvs.nil)), (Rt.v (Tv.one (Lf.int .i64))), fun n a => laws_szVal n a.1.1 a.1.2.1 a.1.2.2 a.2.1⟩
def F_laws_szCol : Fn' ((ByteArray × (Int × (Bool × (Bool × (Int × (Int × ByteArray)))))) × (Int × Unit)) Int := ⟨48, (Tvs.cons (Tv.agg (Ls.cons Lf.str (Ls.cons (Lf.int .i64) (Ls.cons Lf.bool (Ls.cons Lf.bool (Ls.cons (Lf.int .i64) (Ls.cons (Lf.int .i64) (Ls.one Lf.str)))))))) (Tvs.cons (Tv.one (Lf.int .i64)) Tvs.nil)), (Rt.v (Tv.one (Lf.int .i64))), fun n a => laws_szCol n a.1.1 a.1.2.1 a.1.2.2.1 a.1.2.2.2.1 a.1.2.2.2.2.1 a.1.2.2.2.2.2.1 a.1.2.2.2.2.2.2 a.2.1⟩
def F_laws_toVal : Fn' ((Int × (Int × ByteArray)) × Unit) (Int × (Int × ByteArray)) := ⟨22, (Tvs.cons (Tv.agg (Ls.cons (Lf.int .i64) (Ls.cons (Lf.int .i64) (Ls.one Lf.str)))) Tvs.nil), (Rt.v (Tv.agg (Ls.cons (Lf.int .i64) (Ls.cons (Lf.int .i64) (Ls.one Lf.str))))), fun n a => laws_toVal n a.1.1 a.1.2.1 a.1.2.2⟩
def F_laws_toCol : Fn' ((ByteArray × (Int × (Bool × (Bool × (Int × (Int × ByteArray)))))) × Unit) (ByteArray × (Int × (Bool × (Bool × (Int × (Int × ByteArray)))))) := ⟨50, (Tvs.cons (Tv.agg (Ls.cons Lf.str (Ls.cons (Lf.int .i64) (Ls.cons Lf.bool (Ls.cons Lf.bool (Ls.cons (Lf.int .i64) (Ls.cons (Lf.int .i64) (Ls.one Lf.str)))))))) Tvs.nil), (Rt.v (Tv.agg (Ls.cons Lf.str (Ls.cons (Lf.int .i64) (Ls.cons Lf.bool (Ls.cons Lf.bool (Ls.cons (Lf.int .i64) (Ls.cons (Lf.int .i64) (Ls.one Lf.str))))))))), fun n a => laws_toCol n a.1.1 a.1.2.1 a.1.2.2.1 a.1.2.2.2.1 a.1.2.2.2.2.1 a.1.2.2.2.2.2.1 a.1.2.2.2.2.2.2⟩
def F_spec_WordOk : Fn' (ByteArray × Unit) Bool := ⟨109, (Tvs.cons (Tv.one Lf.str) Tvs.nil), (Rt.v (Tv.one Lf.bool)), fun n a => spec_WordOk n a.1⟩
def S_spec_WordOk_L1 := Sh.of (Sl.one Lf.str (Sl.gap 2 (Sl.one (Lf.int .i64) (Sl.gap 24 Sl.nil)))) Rw.nil Ls.nil
def T_spec_WordOk (n : Nat) : Tab Bool := [([.b, .r, .l, .r], row1 S_spec_WordOk_L1 fun j a => spec_WordOk_L1 n j a.1.1 a.1.2.1)]
def F_spec_l01Num : Fn' (Int × Unit) Bool := ⟨103, (Tvs.cons (Tv.one (Lf.int .i64)) Tvs.nil), (Rt.v (Tv.one Lf.bool)), fun n a => spec_l01Num n a.1⟩
def F_spec_ValOk : Fn' ((Int × (Int × ByteArray)) × Unit) Bool := ⟨65, (Tvs.cons (Tv.agg (Ls.cons (Lf.int .i64) (Ls.cons (Lf.int .i64) (Ls.one Lf.str)))) Tvs.nil), (Rt.v (Tv.one Lf.bool)), fun n a => spec_ValOk n a.1.1 a.1.2.1 a.1.2.2⟩
def F_spec_ColOk : Fn' ((ByteArray × (Int × (Bool × (Bool × (Int × (Int × ByteArray)))))) × Unit) Bool := ⟨91, (Tvs.cons (Tv.agg (Ls.cons Lf.str (Ls.cons (Lf.int .i64) (Ls.cons Lf.bool (Ls.cons Lf.bool (Ls.cons (Lf.int .i64) (Ls.cons (Lf.int .i64) (Ls.one Lf.str)))))))) Tvs.nil), (Rt.v (Tv.one Lf.bool)), fun n a => spec_ColOk n a.1.1 a.1.2.1 a.1.2.2.1 a.1.2.2.2.1 a.1.2.2.2.2.1 a.1.2.2.2.2.2.1 a.1.2.2.2.2.2.2⟩
def F_spec_l05Types : Fn' Unit (List ByteArray) := ⟨110, Tvs.nil, (Rt.v (Tv.one (Lf.od .str))), fun n a => spec_l05Types n⟩
def F_spec_l01Bool : Fn' (Int × Unit) ByteArray := ⟨66, (Tvs.cons (Tv.one (Lf.int .i64)) Tvs.nil), (Rt.v (Tv.one Lf.str)), fun n a => spec_l01Bool n a.1⟩
def F_spec_NumText : Fn' (Int × Unit) ByteArray := ⟨67, (Tvs.cons (Tv.one (Lf.int .i64)) Tvs.nil), (Rt.v (Tv.one Lf.str)), fun n a => spec_NumText n a.1⟩
def F_spec_l01Hex : Fn' (Int × Unit) Int := ⟨68, (Tvs.cons (Tv.one (Lf.int .i64)) Tvs.nil), (Rt.v (Tv.one (Lf.int .u8))), fun n a => spec_l01Hex n a.1⟩
def F_spec_ValText : Fn' ((Int × (Int × ByteArray)) × Unit) ByteArray := ⟨21, (Tvs.cons (Tv.agg (Ls.cons (Lf.int .i64) (Ls.cons (Lf.int .i64) (Ls.one Lf.str)))) Tvs.nil), (Rt.v (Tv.one Lf.str)), fun n a => spec_ValText n a.1.1 a.1.2.1 a.1.2.2⟩
def S_spec_ValText_L1 := Sh.of (Sl.gap 1 (Sl.k (Kf.box 104 0) (Sl.gap 1 (Sl.k (Kf.ow 232) (Sl.one (Lf.int .i64) (Sl.gap 63 Sl.nil)))))) (Rw.box 104 (.pair (.int .i64) (.pair (.int .i64) .str)) (Ls.cons (Lf.int .i64) (Ls.cons (Lf.int .i64) (Ls.cons Lf.str Ls.nil))) (Rw.data 232 (.int .u8) Rw.nil)) Ls.nil
def T_spec_ValText (n : Nat) : Tab ByteArray := [([.b, .r, .l, .r, .r, .r, .r], row1 S_spec_ValText_L1 fun j a => spec_ValText_L1 n j a.1.1 a.2.1.1 a.2.1.2.1 a.2.1.2.2.1 a.2.2.1)]
def F_spec_l05Col : Fn' ((ByteArray × (Int × (Bool × (Bool × (Int × (Int × ByteArray)))))) × Unit) (List ByteArray) := ⟨93, (Tvs.cons (Tv.agg (Ls.cons Lf.str (Ls.cons (Lf.int .i64) (Ls.cons Lf.bool (Ls.cons Lf.bool (Ls.cons (Lf.int .i64) (Ls.cons (Lf.int .i64) (Ls.one Lf.str)))))))) Tvs.nil), (Rt.v (Tv.one (Lf.od .str))), fun n a => spec_l05Col n a.1.1 a.1.2.1 a.1.2.2.1 a.1.2.2.2.1 a.1.2.2.2.2.1 a.1.2.2.2.2.2.1 a.1.2.2.2.2.2.2⟩
def F_spec_l05Join : Fn' ((List ByteArray) × Unit) ByteArray := ⟨92, (Tvs.cons (Tv.one (Lf.sh .str)) Tvs.nil), (Rt.v (Tv.one Lf.str)), fun n a => spec_l05Join n a.1⟩
def S_spec_l05Join_L1 := Sh.of (Sl.gap 3 (Sl.one Lf.str (Sl.gap 2 (Sl.one (Lf.sh .str) (Sl.one (Lf.int .i64) (Sl.one (Lf.int .i64) (Sl.gap 13 Sl.nil))))))) Rw.nil Ls.nil
def T_spec_l05Join (n : Nat) : Tab ByteArray := [([.b, .r, .l, .r, .r], row1 S_spec_l05Join_L1 fun j a => spec_l05Join_L1 n j a.1.1 a.1.2.1 a.1.2.2.1 a.1.2.2.2.1)]
def F_spec_ColText : Fn' ((ByteArray × (Int × (Bool × (Bool × (Int × (Int × ByteArray)))))) × Unit) ByteArray := ⟨49, (Tvs.cons (Tv.agg (Ls.cons Lf.str (Ls.cons (Lf.int .i64) (Ls.cons Lf.bool (Ls.cons Lf.bool (Ls.cons (Lf.int .i64) (Ls.cons (Lf.int .i64) (Ls.one Lf.str)))))))) Tvs.nil), (Rt.v (Tv.one Lf.str)), fun n a => spec_ColText n a.1.1 a.1.2.1 a.1.2.2.1 a.1.2.2.2.1 a.1.2.2.2.2.1 a.1.2.2.2.2.2.1 a.1.2.2.2.2.2.2⟩
def F_impl_within : Fn' (Int × (Int × (Int × Unit))) Bool := ⟨71, (Tvs.cons (Tv.one (Lf.int .i64)) (Tvs.cons (Tv.one (Lf.int .i64)) (Tvs.cons (Tv.one (Lf.int .i64)) Tvs.nil))), (Rt.v (Tv.one Lf.bool)), fun n a => impl_within n a.1 a.2.1 a.2.2.1⟩
def F_impl_WordOk : Fn' (ByteArray × Unit) Bool := ⟨111, (Tvs.cons (Tv.one Lf.str) Tvs.nil), (Rt.v (Tv.one Lf.bool)), fun n a => impl_WordOk n a.1⟩
def S_impl_WordOk_L1 := Sh.of (Sl.one Lf.str (Sl.gap 2 (Sl.one (Lf.int .i64) (Sl.gap 19 Sl.nil)))) Rw.nil Ls.nil
def T_impl_WordOk (n : Nat) : Tab Bool := [([.b, .r, .l, .r], row1 S_impl_WordOk_L1 fun j a => impl_WordOk_L1 n j a.1.1 a.1.2.1)]
def F_impl_ValOk : Fn' ((Int × (Int × ByteArray)) × Unit) Bool := ⟨69, (Tvs.cons (Tv.agg (Ls.cons (Lf.int .i64) (Ls.cons (Lf.int .i64) (Ls.one Lf.str)))) Tvs.nil), (Rt.v (Tv.one Lf.bool)), fun n a => impl_ValOk n a.1.1 a.1.2.1 a.1.2.2⟩
def F_impl_ColOk : Fn' ((ByteArray × (Int × (Bool × (Bool × (Int × (Int × ByteArray)))))) × Unit) Bool := ⟨94, (Tvs.cons (Tv.agg (Ls.cons Lf.str (Ls.cons (Lf.int .i64) (Ls.cons Lf.bool (Ls.cons Lf.bool (Ls.cons (Lf.int .i64) (Ls.cons (Lf.int .i64) (Ls.one Lf.str)))))))) Tvs.nil), (Rt.v (Tv.one Lf.bool)), fun n a => impl_ColOk n a.1.1 a.1.2.1 a.1.2.2.1 a.1.2.2.2.1 a.1.2.2.2.2.1 a.1.2.2.2.2.2.1 a.1.2.2.2.2.2.2⟩
def F_impl_tyName : Fn' (Int × Unit) ByteArray := ⟨95, (Tvs.cons (Tv.one (Lf.int .i64)) Tvs.nil), (Rt.v (Tv.one Lf.str)), fun n a => impl_tyName n a.1⟩
def F_impl_boolText : Fn' (Int × Unit) ByteArray := ⟨70, (Tvs.cons (Tv.one (Lf.int .i64)) Tvs.nil), (Rt.v (Tv.one Lf.str)), fun n a => impl_boolText n a.1⟩
def F_impl_NumText : Fn' (Int × Unit) ByteArray := ⟨33, (Tvs.cons (Tv.one (Lf.int .i64)) Tvs.nil), (Rt.v (Tv.one Lf.str)), fun n a => impl_NumText n a.1⟩
def S_impl_NumText_L1 := Sh.of (Sl.one (Lf.int .i64) (Sl.gap 2 (Sl.one Lf.str (Sl.gap 28 Sl.nil)))) Rw.nil Ls.nil
def T_impl_NumText (n : Nat) : Tab ByteArray := [([.b, .l, .r, .r, .r, .r], row1 S_impl_NumText_L1 fun j a => impl_NumText_L1 n j a.1.1 a.1.2.1)]
def F_impl_ValText : Fn' ((Int × (Int × ByteArray)) × Unit) ByteArray := ⟨23, (Tvs.cons (Tv.agg (Ls.cons (Lf.int .i64) (Ls.cons (Lf.int .i64) (Ls.one Lf.str)))) Tvs.nil), (Rt.v (Tv.one Lf.str)), fun n a => impl_ValText n a.1.1 a.1.2.1 a.1.2.2⟩
def S_impl_ValText_L1 := Sh.of (Sl.gap 1 (Sl.k (Kf.box 104 0) (Sl.gap 1 (Sl.k (Kf.ow 232) (Sl.one (Lf.int .i64) (Sl.gap 63 Sl.nil)))))) (Rw.box 104 (.pair (.int .i64) (.pair (.int .i64) .str)) (Ls.cons (Lf.int .i64) (Ls.cons (Lf.int .i64) (Ls.cons Lf.str Ls.nil))) (Rw.data 232 (.int .u8) Rw.nil)) Ls.nil
def T_impl_ValText (n : Nat) : Tab ByteArray := [([.b, .r, .l, .r, .r, .r], row1 S_impl_ValText_L1 fun j a => impl_ValText_L1 n j a.1.1 a.2.1.1 a.2.1.2.1 a.2.1.2.2.1 a.2.2.1)]
def F_impl_ColText : Fn' ((ByteArray × (Int × (Bool × (Bool × (Int × (Int × ByteArray)))))) × Unit) ByteArray := ⟨51, (Tvs.cons (Tv.agg (Ls.cons Lf.str (Ls.cons (Lf.int .i64) (Ls.cons Lf.bool (Ls.cons Lf.bool (Ls.cons (Lf.int .i64) (Ls.cons (Lf.int .i64) (Ls.one Lf.str)))))))) Tvs.nil), (Rt.v (Tv.one Lf.str)), fun n a => impl_ColText n a.1.1 a.1.2.1 a.1.2.2.1 a.1.2.2.2.1 a.1.2.2.2.2.1 a.1.2.2.2.2.2.1 a.1.2.2.2.2.2.2⟩
def F_laws_FnExactColText : Fn' ((ByteArray × (Int × (Bool × (Bool × (Int × (Int × ByteArray)))))) × Unit) Bool := ⟨10, (Tvs.cons (Tv.agg (Ls.cons Lf.str (Ls.cons (Lf.int .i64) (Ls.cons Lf.bool (Ls.cons Lf.bool (Ls.cons (Lf.int .i64) (Ls.cons (Lf.int .i64) (Ls.one Lf.str)))))))) Tvs.nil), (Rt.v (Tv.one Lf.bool)), fun n a => laws_FnExactColText n a.1.1 a.1.2.1 a.1.2.2.1 a.1.2.2.2.1 a.1.2.2.2.2.1 a.1.2.2.2.2.2.1 a.1.2.2.2.2.2.2⟩
def ents : List Ent := [entOf F_laws_szVal, entOf F_laws_szCol, entOf F_laws_toVal, entOf F_laws_toCol, entOf F_spec_WordOk, entOf F_spec_l01Num, entOf F_spec_ValOk, entOf F_spec_ColOk, entOf F_spec_l05Types, entOf F_spec_l01Bool, entOf F_spec_NumText, entOf F_spec_l01Hex, entOf F_spec_ValText, entOf F_spec_l05Col, entOf F_spec_l05Join, entOf F_spec_ColText, entOf F_impl_within, entOf F_impl_WordOk, entOf F_impl_ValOk, entOf F_impl_ColOk, entOf F_impl_tyName, entOf F_impl_boolText, entOf F_impl_NumText, entOf F_impl_ValText, entOf F_impl_ColText, entOf F_laws_FnExactColText]
def callC (n : Nat) : CF := chain ents n
theorem eq_laws_szVal (n : Nat) (a) : evalBodyU env (callC n) n F_laws_szVal.g [] (F_laws_szVal.args.to a) F_laws_szVal.ret.un = F_laws_szVal.run (n + 1) a := by kernel_rfl
theorem eq_laws_szCol (n : Nat) (a) : evalBodyU env (callC n) n F_laws_szCol.g [] (F_laws_szCol.args.to a) F_laws_szCol.ret.un = F_laws_szCol.run (n + 1) a := by kernel_rfl
theorem eq_laws_toVal (n : Nat) (a) : evalBodyU env (callC n) n F_laws_toVal.g [] (F_laws_toVal.args.to a) F_laws_toVal.ret.un = F_laws_toVal.run (n + 1) a := by kernel_rfl
theorem eq_laws_toCol (n : Nat) (a) : evalBodyU env (callC n) n F_laws_toCol.g [] (F_laws_toCol.args.to a) F_laws_toCol.ret.un = F_laws_toCol.run (n + 1) a := by kernel_rfl
theorem eq_spec_WordOk (n : Nat) (a) : evalBodyU env (callC n) n F_spec_WordOk.g (T_spec_WordOk n) (F_spec_WordOk.args.to a) F_spec_WordOk.ret.un = F_spec_WordOk.run (n + 1) a := by kernel_rfl
theorem tab_spec_WordOk (n : Nat) : TabOk env (callC n) n F_spec_WordOk.g (T_spec_WordOk n) F_spec_WordOk.ret.un := tabOk (List.forall_mem_cons.mpr ⟨row1_ok (fun _ => rfl) (fun _ _ => by kernel_rfl), List.forall_mem_nil _⟩)
theorem eq_spec_l01Num (n : Nat) (a) : evalBodyU env (callC n) n F_spec_l01Num.g [] (F_spec_l01Num.args.to a) F_spec_l01Num.ret.un = F_spec_l01Num.run (n + 1) a := by kernel_rfl
theorem eq_spec_ValOk (n : Nat) (a) : evalBodyU env (callC n) n F_spec_ValOk.g [] (F_spec_ValOk.args.to a) F_spec_ValOk.ret.un = F_spec_ValOk.run (n + 1) a := by kernel_rfl
theorem eq_spec_ColOk (n : Nat) (a) : evalBodyU env (callC n) n F_spec_ColOk.g [] (F_spec_ColOk.args.to a) F_spec_ColOk.ret.un = F_spec_ColOk.run (n + 1) a := by kernel_rfl
theorem eq_spec_l05Types (n : Nat) (a) : evalBodyU env (callC n) n F_spec_l05Types.g [] (F_spec_l05Types.args.to a) F_spec_l05Types.ret.un = F_spec_l05Types.run (n + 1) a := by kernel_rfl
theorem eq_spec_l01Bool (n : Nat) (a) : evalBodyU env (callC n) n F_spec_l01Bool.g [] (F_spec_l01Bool.args.to a) F_spec_l01Bool.ret.un = F_spec_l01Bool.run (n + 1) a := by kernel_rfl
theorem eq_spec_NumText (n : Nat) (a) : evalBodyU env (callC n) n F_spec_NumText.g [] (F_spec_NumText.args.to a) F_spec_NumText.ret.un = F_spec_NumText.run (n + 1) a := by kernel_rfl
theorem eq_spec_l01Hex (n : Nat) (a) : evalBodyU env (callC n) n F_spec_l01Hex.g [] (F_spec_l01Hex.args.to a) F_spec_l01Hex.ret.un = F_spec_l01Hex.run (n + 1) a := by kernel_rfl
theorem eq_spec_ValText (n : Nat) (a) : evalBodyU env (callC n) n F_spec_ValText.g (T_spec_ValText n) (F_spec_ValText.args.to a) F_spec_ValText.ret.un = F_spec_ValText.run (n + 1) a := by kernel_rfl
theorem tab_spec_ValText (n : Nat) : TabOk env (callC n) n F_spec_ValText.g (T_spec_ValText n) F_spec_ValText.ret.un := tabOk (List.forall_mem_cons.mpr ⟨row1_ok (fun _ => rfl) (fun _ _ => by kernel_rfl), List.forall_mem_nil _⟩)
theorem eq_spec_l05Col (n : Nat) (a) : evalBodyU env (callC n) n F_spec_l05Col.g [] (F_spec_l05Col.args.to a) F_spec_l05Col.ret.un = F_spec_l05Col.run (n + 1) a := by kernel_rfl
theorem eq_spec_l05Join (n : Nat) (a) : evalBodyU env (callC n) n F_spec_l05Join.g (T_spec_l05Join n) (F_spec_l05Join.args.to a) F_spec_l05Join.ret.un = F_spec_l05Join.run (n + 1) a := by kernel_rfl
theorem tab_spec_l05Join (n : Nat) : TabOk env (callC n) n F_spec_l05Join.g (T_spec_l05Join n) F_spec_l05Join.ret.un := tabOk (List.forall_mem_cons.mpr ⟨row1_ok (fun _ => rfl) (fun _ _ => by kernel_rfl), List.forall_mem_nil _⟩)
theorem eq_spec_ColText (n : Nat) (a) : evalBodyU env (callC n) n F_spec_ColText.g [] (F_spec_ColText.args.to a) F_spec_ColText.ret.un = F_spec_ColText.run (n + 1) a := by kernel_rfl
theorem eq_impl_within (n : Nat) (a) : evalBodyU env (callC n) n F_impl_within.g [] (F_impl_within.args.to a) F_impl_within.ret.un = F_impl_within.run (n + 1) a := by kernel_rfl
theorem eq_impl_WordOk (n : Nat) (a) : evalBodyU env (callC n) n F_impl_WordOk.g (T_impl_WordOk n) (F_impl_WordOk.args.to a) F_impl_WordOk.ret.un = F_impl_WordOk.run (n + 1) a := by kernel_rfl
theorem tab_impl_WordOk (n : Nat) : TabOk env (callC n) n F_impl_WordOk.g (T_impl_WordOk n) F_impl_WordOk.ret.un := tabOk (List.forall_mem_cons.mpr ⟨row1_ok (fun _ => rfl) (fun _ _ => by kernel_rfl), List.forall_mem_nil _⟩)
theorem eq_impl_ValOk (n : Nat) (a) : evalBodyU env (callC n) n F_impl_ValOk.g [] (F_impl_ValOk.args.to a) F_impl_ValOk.ret.un = F_impl_ValOk.run (n + 1) a := by kernel_rfl
theorem eq_impl_ColOk (n : Nat) (a) : evalBodyU env (callC n) n F_impl_ColOk.g [] (F_impl_ColOk.args.to a) F_impl_ColOk.ret.un = F_impl_ColOk.run (n + 1) a := by kernel_rfl
theorem eq_impl_tyName (n : Nat) (a) : evalBodyU env (callC n) n F_impl_tyName.g [] (F_impl_tyName.args.to a) F_impl_tyName.ret.un = F_impl_tyName.run (n + 1) a := by kernel_rfl
theorem eq_impl_boolText (n : Nat) (a) : evalBodyU env (callC n) n F_impl_boolText.g [] (F_impl_boolText.args.to a) F_impl_boolText.ret.un = F_impl_boolText.run (n + 1) a := by kernel_rfl
theorem eq_impl_NumText (n : Nat) (a) : evalBodyU env (callC n) n F_impl_NumText.g (T_impl_NumText n) (F_impl_NumText.args.to a) F_impl_NumText.ret.un = F_impl_NumText.run (n + 1) a := by kernel_rfl
theorem tab_impl_NumText (n : Nat) : TabOk env (callC n) n F_impl_NumText.g (T_impl_NumText n) F_impl_NumText.ret.un := tabOk (List.forall_mem_cons.mpr ⟨row1_ok (fun _ => rfl) (fun _ _ => by kernel_rfl), List.forall_mem_nil _⟩)
theorem eq_impl_ValText (n : Nat) (a) : evalBodyU env (callC n) n F_impl_ValText.g (T_impl_ValText n) (F_impl_ValText.args.to a) F_impl_ValText.ret.un = F_impl_ValText.run (n + 1) a := by kernel_rfl
theorem tab_impl_ValText (n : Nat) : TabOk env (callC n) n F_impl_ValText.g (T_impl_ValText n) F_impl_ValText.ret.un := tabOk (List.forall_mem_cons.mpr ⟨row1_ok (fun _ => rfl) (fun _ _ => by kernel_rfl), List.forall_mem_nil _⟩)
theorem eq_impl_ColText (n : Nat) (a) : evalBodyU env (callC n) n F_impl_ColText.g [] (F_impl_ColText.args.to a) F_impl_ColText.ret.un = F_impl_ColText.run (n + 1) a := by kernel_rfl
theorem eq_laws_FnExactColText (n : Nat) (a) : evalBodyU env (callC n) n F_laws_FnExactColText.g [] (F_laws_FnExactColText.args.to a) F_laws_FnExactColText.ret.un = F_laws_FnExactColText.run (n + 1) a := by kernel_rfl
structure AllOk (n : Nat) : Prop where
  o_laws_szVal : FnOk Try.prog F_laws_szVal n
  o_laws_szCol : FnOk Try.prog F_laws_szCol n
  o_laws_toVal : FnOk Try.prog F_laws_toVal n
  o_laws_toCol : FnOk Try.prog F_laws_toCol n
  o_spec_WordOk : FnOk Try.prog F_spec_WordOk n
  o_spec_l01Num : FnOk Try.prog F_spec_l01Num n
  o_spec_ValOk : FnOk Try.prog F_spec_ValOk n
  o_spec_ColOk : FnOk Try.prog F_spec_ColOk n
  o_spec_l05Types : FnOk Try.prog F_spec_l05Types n
  o_spec_l01Bool : FnOk Try.prog F_spec_l01Bool n
  o_spec_NumText : FnOk Try.prog F_spec_NumText n
  o_spec_l01Hex : FnOk Try.prog F_spec_l01Hex n
  o_spec_ValText : FnOk Try.prog F_spec_ValText n
  o_spec_l05Col : FnOk Try.prog F_spec_l05Col n
  o_spec_l05Join : FnOk Try.prog F_spec_l05Join n
  o_spec_ColText : FnOk Try.prog F_spec_ColText n
  o_impl_within : FnOk Try.prog F_impl_within n
  o_impl_WordOk : FnOk Try.prog F_impl_WordOk n
  o_impl_ValOk : FnOk Try.prog F_impl_ValOk n
  o_impl_ColOk : FnOk Try.prog F_impl_ColOk n
  o_impl_tyName : FnOk Try.prog F_impl_tyName n
  o_impl_boolText : FnOk Try.prog F_impl_boolText n
  o_impl_NumText : FnOk Try.prog F_impl_NumText n
  o_impl_ValText : FnOk Try.prog F_impl_ValText n
  o_impl_ColText : FnOk Try.prog F_impl_ColText n
  o_laws_FnExactColText : FnOk Try.prog F_laws_FnExactColText n
theorem calls_ok {n : Nat} (h : AllOk n) : CFok Try.prog (callC n) := chain_ok (by
  simp only [ents, List.forall_mem_cons, List.not_mem_nil, false_implies, implies_true, and_true]
  exact ⟨entOk_of h.o_laws_szVal, entOk_of h.o_laws_szCol, entOk_of h.o_laws_toVal, entOk_of h.o_laws_toCol, entOk_of h.o_spec_WordOk, entOk_of h.o_spec_l01Num, entOk_of h.o_spec_ValOk, entOk_of h.o_spec_ColOk, entOk_of h.o_spec_l05Types, entOk_of h.o_spec_l01Bool, entOk_of h.o_spec_NumText, entOk_of h.o_spec_l01Hex, entOk_of h.o_spec_ValText, entOk_of h.o_spec_l05Col, entOk_of h.o_spec_l05Join, entOk_of h.o_spec_ColText, entOk_of h.o_impl_within, entOk_of h.o_impl_WordOk, entOk_of h.o_impl_ValOk, entOk_of h.o_impl_ColOk, entOk_of h.o_impl_tyName, entOk_of h.o_impl_boolText, entOk_of h.o_impl_NumText, entOk_of h.o_impl_ValText, entOk_of h.o_impl_ColText, entOk_of h.o_laws_FnExactColText⟩)
theorem calls_det (n : Nat) : CFdet (callC n) := chain_det (by
  simp only [ents, List.forall_mem_cons, List.not_mem_nil, false_implies, implies_true, and_true]
  exact ⟨entDet F_laws_szVal, entDet F_laws_szCol, entDet F_laws_toVal, entDet F_laws_toCol, entDet F_spec_WordOk, entDet F_spec_l01Num, entDet F_spec_ValOk, entDet F_spec_ColOk, entDet F_spec_l05Types, entDet F_spec_l01Bool, entDet F_spec_NumText, entDet F_spec_l01Hex, entDet F_spec_ValText, entDet F_spec_l05Col, entDet F_spec_l05Join, entDet F_spec_ColText, entDet F_impl_within, entDet F_impl_WordOk, entDet F_impl_ValOk, entDet F_impl_ColOk, entDet F_impl_tyName, entDet F_impl_boolText, entDet F_impl_NumText, entDet F_impl_ValText, entDet F_impl_ColText, entDet F_laws_FnExactColText⟩)
theorem all_ok : ∀ n, AllOk n
  | 0 => ⟨fnOk_zero fun a => rfl, fnOk_zero fun a => rfl, fnOk_zero fun a => rfl, fnOk_zero fun a => rfl, fnOk_zero fun a => rfl, fnOk_zero fun a => rfl, fnOk_zero fun a => rfl, fnOk_zero fun a => rfl, fnOk_zero fun a => rfl, fnOk_zero fun a => rfl, fnOk_zero fun a => rfl, fnOk_zero fun a => rfl, fnOk_zero fun a => rfl, fnOk_zero fun a => rfl, fnOk_zero fun a => rfl, fnOk_zero fun a => rfl, fnOk_zero fun a => rfl, fnOk_zero fun a => rfl, fnOk_zero fun a => rfl, fnOk_zero fun a => rfl, fnOk_zero fun a => rfl, fnOk_zero fun a => rfl, fnOk_zero fun a => rfl, fnOk_zero fun a => rfl, fnOk_zero fun a => rfl, fnOk_zero fun a => rfl⟩
  | n + 1 => ⟨fnOk_succ envOk eqsOk (calls_ok (all_ok n)) (calls_det n) tabOk_nil (eq_laws_szVal n), fnOk_succ envOk eqsOk (calls_ok (all_ok n)) (calls_det n) tabOk_nil (eq_laws_szCol n), fnOk_succ envOk eqsOk (calls_ok (all_ok n)) (calls_det n) tabOk_nil (eq_laws_toVal n), fnOk_succ envOk eqsOk (calls_ok (all_ok n)) (calls_det n) tabOk_nil (eq_laws_toCol n), fnOk_succ envOk eqsOk (calls_ok (all_ok n)) (calls_det n) (tab_spec_WordOk n) (eq_spec_WordOk n), fnOk_succ envOk eqsOk (calls_ok (all_ok n)) (calls_det n) tabOk_nil (eq_spec_l01Num n), fnOk_succ envOk eqsOk (calls_ok (all_ok n)) (calls_det n) tabOk_nil (eq_spec_ValOk n), fnOk_succ envOk eqsOk (calls_ok (all_ok n)) (calls_det n) tabOk_nil (eq_spec_ColOk n), fnOk_succ envOk eqsOk (calls_ok (all_ok n)) (calls_det n) tabOk_nil (eq_spec_l05Types n), fnOk_succ envOk eqsOk (calls_ok (all_ok n)) (calls_det n) tabOk_nil (eq_spec_l01Bool n), fnOk_succ envOk eqsOk (calls_ok (all_ok n)) (calls_det n) tabOk_nil (eq_spec_NumText n), fnOk_succ envOk eqsOk (calls_ok (all_ok n)) (calls_det n) tabOk_nil (eq_spec_l01Hex n), fnOk_succ envOk eqsOk (calls_ok (all_ok n)) (calls_det n) (tab_spec_ValText n) (eq_spec_ValText n), fnOk_succ envOk eqsOk (calls_ok (all_ok n)) (calls_det n) tabOk_nil (eq_spec_l05Col n), fnOk_succ envOk eqsOk (calls_ok (all_ok n)) (calls_det n) (tab_spec_l05Join n) (eq_spec_l05Join n), fnOk_succ envOk eqsOk (calls_ok (all_ok n)) (calls_det n) tabOk_nil (eq_spec_ColText n), fnOk_succ envOk eqsOk (calls_ok (all_ok n)) (calls_det n) tabOk_nil (eq_impl_within n), fnOk_succ envOk eqsOk (calls_ok (all_ok n)) (calls_det n) (tab_impl_WordOk n) (eq_impl_WordOk n), fnOk_succ envOk eqsOk (calls_ok (all_ok n)) (calls_det n) tabOk_nil (eq_impl_ValOk n), fnOk_succ envOk eqsOk (calls_ok (all_ok n)) (calls_det n) tabOk_nil (eq_impl_ColOk n), fnOk_succ envOk eqsOk (calls_ok (all_ok n)) (calls_det n) tabOk_nil (eq_impl_tyName n), fnOk_succ envOk eqsOk (calls_ok (all_ok n)) (calls_det n) tabOk_nil (eq_impl_boolText n), fnOk_succ envOk eqsOk (calls_ok (all_ok n)) (calls_det n) (tab_impl_NumText n) (eq_impl_NumText n), fnOk_succ envOk eqsOk (calls_ok (all_ok n)) (calls_det n) (tab_impl_ValText n) (eq_impl_ValText n), fnOk_succ envOk eqsOk (calls_ok (all_ok n)) (calls_det n) tabOk_nil (eq_impl_ColText n), fnOk_succ envOk eqsOk (calls_ok (all_ok n)) (calls_det n) tabOk_nil (eq_laws_FnExactColText n)⟩
end Go.Proofs.Ythfkolhjnioblaa.Ev

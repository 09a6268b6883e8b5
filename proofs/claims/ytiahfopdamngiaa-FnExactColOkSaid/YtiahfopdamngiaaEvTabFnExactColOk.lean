/- The tables of the law FnExactColOk: what the evaluator makes of the program is these functions. -/
import Derived.Test.YtiahfopdamngiaaEvFnFnExactColOk
import Derived.Test.YtiahfopdamngiaaEvHead
import Derived.Test.YtiahfopdamngiaaEvEq
import Derived.Test.YtiahfopdamngiaaChecked
set_option linter.all false
namespace Go.Proofs.Ytiahfopdamngiaa.Ev
open Go Go.Proofs
def bytesT : List (Kd × Nat) := []
def bytesOf (f : Kd) : Nat := ((bytesT.find? fun p => decide (p.1 = f)).map (·.2)).getD 1
theorem bytes_pos (f : Kd) : 1 ≤ bytesOf f := by
  unfold bytesOf
  cases h : bytesT.find? fun p => decide (p.1 = f) with
  | none => exact Nat.le_refl _
  | some p =>
    have hp : ∀ q ∈ bytesT, 1 ≤ q.2 := by decide
    exact hp p (List.mem_of_find?_eq_some h)
noncomputable def env : Env := ⟨[(3, ⟨1, 0, false, [], (.int .i64)⟩),
  (4, ⟨1, 0, false, [], .bool⟩),
  (9, ⟨1, 0, false, [], .str⟩),
  (35, ⟨3, 0, true, [(0, 1), (1, 1), (2, 1)], (.pair (.int .i64) (.pair (.int .i64) .str))⟩),
  (38, ⟨3, 0, true, [(0, 1), (1, 1), (2, 1)], (.pair (.int .i64) (.pair (.int .i64) .str))⟩),
  (53, ⟨7, 0, true, [(0, 1), (1, 1), (2, 1), (3, 1), (4, 3)], (.pair .str (.pair (.int .i64) (.pair .bool (.pair .bool (.pair (.int .i64) (.pair (.int .i64) .str))))))⟩),
  (57, ⟨7, 0, true, [(0, 1), (1, 1), (2, 1), (3, 1), (4, 3)], (.pair .str (.pair (.int .i64) (.pair .bool (.pair .bool (.pair (.int .i64) (.pair (.int .i64) .str))))))⟩)],
  [(14, Try.f14), (15, Try.f15), (16, Try.f16), (25, Try.f25), (26, Try.f26), (27, Try.f27), (28, Try.f28), (44, Try.f44), (45, Try.f45), (46, Try.f46), (47, Try.f47), (48, Try.f48), (49, Try.f49)], [], [(15, [(2, ⟨9, []⟩)]), (16, [(2, ⟨9, []⟩)])], [38]⟩
theorem envOk : EnvOk Try.prog env := envOk_of (by kernel_rfl) (by
  simp only [env, List.forall_mem_cons, List.not_mem_nil, false_implies, implies_true, and_true]
  exact ⟨⟨Try.func14, by kernel_rfl⟩, ⟨Try.func15, by kernel_rfl⟩, ⟨Try.func16, by kernel_rfl⟩, ⟨Try.func25, by kernel_rfl⟩, ⟨Try.func26, by kernel_rfl⟩, ⟨Try.func27, by kernel_rfl⟩, ⟨Try.func28, by kernel_rfl⟩, ⟨Try.func44, by kernel_rfl⟩, ⟨Try.func45, by kernel_rfl⟩, ⟨Try.func46, by kernel_rfl⟩, ⟨Try.func47, by kernel_rfl⟩, ⟨Try.func48, by kernel_rfl⟩, ⟨Try.func49, by kernel_rfl⟩⟩) (by kernel_rfl)
theorem eqsOk : EqsOk Try.prog env := eqsOk_of (by kernel_rfl)
def F_laws_szVal : Fn' ((Int × (Int × ByteArray)) × (Int × Unit)) Int := ⟨25, (Tvs.cons (Tv.agg (Ls.cons (Lf.int .i64) (Ls.cons (Lf.int .i64) (Ls.one Lf.str)))) (Tvs.cons (Tv.one (Lf.int .i64)) Tvs.nil)), (Rt.v (Tv.one (Lf.int .i64))), fun n a => laws_szVal n a.1.1 a.1.2.1 a.1.2.2 a.2.1⟩
def F_laws_szCol : Fn' ((ByteArray × (Int × (Bool × (Bool × (Int × (Int × ByteArray)))))) × (Int × Unit)) Int := ⟨44, (Tvs.cons (Tv.agg (Ls.cons Lf.str (Ls.cons (Lf.int .i64) (Ls.cons Lf.bool (Ls.cons Lf.bool (Ls.cons (Lf.int .i64) (Ls.cons (Lf.int .i64) (Ls.one Lf.str)))))))) (Tvs.cons (Tv.one (Lf.int .i64)) Tvs.nil)), (Rt.v (Tv.one (Lf.int .i64))), fun n a => laws_szCol n a.1.1 a.1.2.1 a.1.2.2.1 a.1.2.2.2.1 a.1.2.2.2.2.1 a.1.2.2.2.2.2.1 a.1.2.2.2.2.2.2 a.2.1⟩
def F_laws_toVal : Fn' ((Int × (Int × ByteArray)) × Unit) (Int × (Int × ByteArray)) := ⟨27, (Tvs.cons (Tv.agg (Ls.cons (Lf.int .i64) (Ls.cons (Lf.int .i64) (Ls.one Lf.str)))) Tvs.nil), (Rt.v (Tv.agg (Ls.cons (Lf.int .i64) (Ls.cons (Lf.int .i64) (Ls.one Lf.str))))), fun n a => laws_toVal n a.1.1 a.1.2.1 a.1.2.2⟩
def F_laws_toCol : Fn' ((ByteArray × (Int × (Bool × (Bool × (Int × (Int × ByteArray)))))) × Unit) (ByteArray × (Int × (Bool × (Bool × (Int × (Int × ByteArray)))))) := ⟨46, (Tvs.cons (Tv.agg (Ls.cons Lf.str (Ls.cons (Lf.int .i64) (Ls.cons Lf.bool (Ls.cons Lf.bool (Ls.cons (Lf.int .i64) (Ls.cons (Lf.int .i64) (Ls.one Lf.str)))))))) Tvs.nil), (Rt.v (Tv.agg (Ls.cons Lf.str (Ls.cons (Lf.int .i64) (Ls.cons Lf.bool (Ls.cons Lf.bool (Ls.cons (Lf.int .i64) (Ls.cons (Lf.int .i64) (Ls.one Lf.str))))))))), fun n a => laws_toCol n a.1.1 a.1.2.1 a.1.2.2.1 a.1.2.2.2.1 a.1.2.2.2.2.1 a.1.2.2.2.2.2.1 a.1.2.2.2.2.2.2⟩
def F_spec_WordOk : Fn' (ByteArray × Unit) Bool := ⟨15, (Tvs.cons (Tv.one Lf.str) Tvs.nil), (Rt.v (Tv.one Lf.bool)), fun n a => spec_WordOk n a.1⟩
def S_spec_WordOk_L1 := Sh.of (Sl.one Lf.str (Sl.gap 2 (Sl.one (Lf.int .i64) (Sl.gap 24 Sl.nil)))) Rw.nil Ls.nil
def T_spec_WordOk (n : Nat) : Tab Bool := [([.b, .r, .l, .r], row1 S_spec_WordOk_L1 fun j a => spec_WordOk_L1 n j a.1.1 a.1.2.1)]
def F_spec_l01Num : Fn' (Int × Unit) Bool := ⟨49, (Tvs.cons (Tv.one (Lf.int .i64)) Tvs.nil), (Rt.v (Tv.one Lf.bool)), fun n a => spec_l01Num n a.1⟩
def F_spec_ValOk : Fn' ((Int × (Int × ByteArray)) × Unit) Bool := ⟨26, (Tvs.cons (Tv.agg (Ls.cons (Lf.int .i64) (Ls.cons (Lf.int .i64) (Ls.one Lf.str)))) Tvs.nil), (Rt.v (Tv.one Lf.bool)), fun n a => spec_ValOk n a.1.1 a.1.2.1 a.1.2.2⟩
def F_spec_ColOk : Fn' ((ByteArray × (Int × (Bool × (Bool × (Int × (Int × ByteArray)))))) × Unit) Bool := ⟨45, (Tvs.cons (Tv.agg (Ls.cons Lf.str (Ls.cons (Lf.int .i64) (Ls.cons Lf.bool (Ls.cons Lf.bool (Ls.cons (Lf.int .i64) (Ls.cons (Lf.int .i64) (Ls.one Lf.str)))))))) Tvs.nil), (Rt.v (Tv.one Lf.bool)), fun n a => spec_ColOk n a.1.1 a.1.2.1 a.1.2.2.1 a.1.2.2.2.1 a.1.2.2.2.2.1 a.1.2.2.2.2.2.1 a.1.2.2.2.2.2.2⟩
def F_impl_within : Fn' (Int × (Int × (Int × Unit))) Bool := ⟨48, (Tvs.cons (Tv.one (Lf.int .i64)) (Tvs.cons (Tv.one (Lf.int .i64)) (Tvs.cons (Tv.one (Lf.int .i64)) Tvs.nil))), (Rt.v (Tv.one Lf.bool)), fun n a => impl_within n a.1 a.2.1 a.2.2.1⟩
def F_impl_WordOk : Fn' (ByteArray × Unit) Bool := ⟨16, (Tvs.cons (Tv.one Lf.str) Tvs.nil), (Rt.v (Tv.one Lf.bool)), fun n a => impl_WordOk n a.1⟩
def S_impl_WordOk_L1 := Sh.of (Sl.one Lf.str (Sl.gap 2 (Sl.one (Lf.int .i64) (Sl.gap 19 Sl.nil)))) Rw.nil Ls.nil
def T_impl_WordOk (n : Nat) : Tab Bool := [([.b, .r, .l, .r], row1 S_impl_WordOk_L1 fun j a => impl_WordOk_L1 n j a.1.1 a.1.2.1)]
def F_impl_ValOk : Fn' ((Int × (Int × ByteArray)) × Unit) Bool := ⟨28, (Tvs.cons (Tv.agg (Ls.cons (Lf.int .i64) (Ls.cons (Lf.int .i64) (Ls.one Lf.str)))) Tvs.nil), (Rt.v (Tv.one Lf.bool)), fun n a => impl_ValOk n a.1.1 a.1.2.1 a.1.2.2⟩
def F_impl_ColOk : Fn' ((ByteArray × (Int × (Bool × (Bool × (Int × (Int × ByteArray)))))) × Unit) Bool := ⟨47, (Tvs.cons (Tv.agg (Ls.cons Lf.str (Ls.cons (Lf.int .i64) (Ls.cons Lf.bool (Ls.cons Lf.bool (Ls.cons (Lf.int .i64) (Ls.cons (Lf.int .i64) (Ls.one Lf.str)))))))) Tvs.nil), (Rt.v (Tv.one Lf.bool)), fun n a => impl_ColOk n a.1.1 a.1.2.1 a.1.2.2.1 a.1.2.2.2.1 a.1.2.2.2.2.1 a.1.2.2.2.2.2.1 a.1.2.2.2.2.2.2⟩
def F_laws_FnExactColOk : Fn' ((ByteArray × (Int × (Bool × (Bool × (Int × (Int × ByteArray)))))) × Unit) Bool := ⟨14, (Tvs.cons (Tv.agg (Ls.cons Lf.str (Ls.cons (Lf.int .i64) (Ls.cons Lf.bool (Ls.cons Lf.bool (Ls.cons (Lf.int .i64) (Ls.cons (Lf.int .i64) (Ls.one Lf.str)))))))) Tvs.nil), (Rt.v (Tv.one Lf.bool)), fun n a => laws_FnExactColOk n a.1.1 a.1.2.1 a.1.2.2.1 a.1.2.2.2.1 a.1.2.2.2.2.1 a.1.2.2.2.2.2.1 a.1.2.2.2.2.2.2⟩
def ents : List Ent := [entOf F_laws_szVal, entOf F_laws_szCol, entOf F_laws_toVal, entOf F_laws_toCol, entOf F_spec_WordOk, entOf F_spec_l01Num, entOf F_spec_ValOk, entOf F_spec_ColOk, entOf F_impl_within, entOf F_impl_WordOk, entOf F_impl_ValOk, entOf F_impl_ColOk, entOf F_laws_FnExactColOk]
def callC (n : Nat) : CF := chain ents n
theorem eq_laws_szVal (n : Nat) (a) : evalBodyU env (callC n) n F_laws_szVal.g [] (F_laws_szVal.args.to a) F_laws_szVal.ret.un = F_laws_szVal.run (n + 1) a := by kernel_rfl
theorem eq_laws_szCol (n : Nat) (a) : evalBodyU env (callC n) n F_laws_szCol.g [] (F_laws_szCol.args.to a) F_laws_szCol.ret.un = F_laws_szCol.run (n + 1) a := by kernel_rfl
theorem eq_laws_toVal (n : Nat) (a) : evalBodyU env (callC n) n F_laws_toVal.g [] (F_laws_toVal.args.to a) F_laws_toVal.ret.un = F_laws_toVal.run (n + 1) a := by kernel_rfl
theorem eq_laws_toCol (n : Nat) (a) : evalBodyU env (callC n) n F_laws_toCol.g [] (F_laws_toCol.args.to a) F_laws_toCol.ret.un = F_laws_toCol.run (n + 1) a := by kernel_rfl
theorem eq_spec_WordOk (n : Nat) (a) : evalBodyU env (callC n) n F_spec_WordOk.g (T_spec_WordOk n) (F_spec_WordOk.args.to a) F_spec_WordOk.ret.un = F_spec_WordOk.run (n + 1) a := by kernel_rfl
theorem tab_spec_WordOk (n : Nat) : TabOk env (callC n) n F_spec_WordOk.g (T_spec_WordOk n) F_spec_WordOk.ret.un := tabOk (List.forall_mem_cons.mpr ⟨row1_ok (fun _ => rfl) (fun _ _ => by kernel_rfl), List.forall_mem_nil _⟩)
theorem eq_spec_l01Num (n : Nat) (a) : evalBodyU env (callC n) n F_spec_l01Num.g [] (F_spec_l01Num.args.to a) F_spec_l01Num.ret.un = F_spec_l01Num.run (n + 1) a := by kernel_rfl
theorem eq_spec_ValOk (n : Nat) (a) : evalBodyU env (callC n) n F_spec_ValOk.g [] (F_spec_ValOk.args.to a) F_spec_ValOk.ret.un = F_spec_ValOk.run (n + 1) a := by kernel_rfl
theorem eq_spec_ColOk (n : Nat) (a) : evalBodyU env (callC n) n F_spec_ColOk.g [] (F_spec_ColOk.args.to a) F_spec_ColOk.ret.un = F_spec_ColOk.run (n + 1) a := by kernel_rfl
theorem eq_impl_within (n : Nat) (a) : evalBodyU env (callC n) n F_impl_within.g [] (F_impl_within.args.to a) F_impl_within.ret.un = F_impl_within.run (n + 1) a := by kernel_rfl
theorem eq_impl_WordOk (n : Nat) (a) : evalBodyU env (callC n) n F_impl_WordOk.g (T_impl_WordOk n) (F_impl_WordOk.args.to a) F_impl_WordOk.ret.un = F_impl_WordOk.run (n + 1) a := by kernel_rfl
theorem tab_impl_WordOk (n : Nat) : TabOk env (callC n) n F_impl_WordOk.g (T_impl_WordOk n) F_impl_WordOk.ret.un := tabOk (List.forall_mem_cons.mpr ⟨row1_ok (fun _ => rfl) (fun _ _ => by kernel_rfl), List.forall_mem_nil _⟩)
theorem eq_impl_ValOk (n : Nat) (a) : evalBodyU env (callC n) n F_impl_ValOk.g [] (F_impl_ValOk.args.to a) F_impl_ValOk.ret.un = F_impl_ValOk.run (n + 1) a := by kernel_rfl
theorem eq_impl_ColOk (n : Nat) (a) : evalBodyU env (callC n) n F_impl_ColOk.g [] (F_impl_ColOk.args.to a) F_impl_ColOk.ret.un = F_impl_ColOk.run (n + 1) a := by kernel_rfl
theorem eq_laws_FnExactColOk (n : Nat) (a) : evalBodyU env (callC n) n F_laws_FnExactColOk.g [] (F_laws_FnExactColOk.args.to a) F_laws_FnExactColOk.ret.un = F_laws_FnExactColOk.run (n + 1) a := by kernel_rfl
structure AllOk (n : Nat) : Prop where
  o_laws_szVal : FnOk Try.prog F_laws_szVal n
  o_laws_szCol : FnOk Try.prog F_laws_szCol n
  o_laws_toVal : FnOk Try.prog F_laws_toVal n
  o_laws_toCol : FnOk Try.prog F_laws_toCol n
  o_spec_WordOk : FnOk Try.prog F_spec_WordOk n
  o_spec_l01Num : FnOk Try.prog F_spec_l01Num n
  o_spec_ValOk : FnOk Try.prog F_spec_ValOk n
  o_spec_ColOk : FnOk Try.prog F_spec_ColOk n
  o_impl_within : FnOk Try.prog F_impl_within n
  o_impl_WordOk : FnOk Try.prog F_impl_WordOk n
  o_impl_ValOk : FnOk Try.prog F_impl_ValOk n
  o_impl_ColOk : FnOk Try.prog F_impl_ColOk n
  o_laws_FnExactColOk : FnOk Try.prog F_laws_FnExactColOk n
theorem calls_ok {n : Nat} (h : AllOk n) : CFok Try.prog (callC n) := chain_ok (by
  simp only [ents, List.forall_mem_cons, List.not_mem_nil, false_implies, implies_true, and_true]
  exact ⟨entOk_of h.o_laws_szVal, entOk_of h.o_laws_szCol, entOk_of h.o_laws_toVal, entOk_of h.o_laws_toCol, entOk_of h.o_spec_WordOk, entOk_of h.o_spec_l01Num, entOk_of h.o_spec_ValOk, entOk_of h.o_spec_ColOk, entOk_of h.o_impl_within, entOk_of h.o_impl_WordOk, entOk_of h.o_impl_ValOk, entOk_of h.o_impl_ColOk, entOk_of h.o_laws_FnExactColOk⟩)
theorem calls_det (n : Nat) : CFdet (callC n) := chain_det (by
  simp only [ents, List.forall_mem_cons, List.not_mem_nil, false_implies, implies_true, and_true]
  exact ⟨entDet F_laws_szVal, entDet F_laws_szCol, entDet F_laws_toVal, entDet F_laws_toCol, entDet F_spec_WordOk, entDet F_spec_l01Num, entDet F_spec_ValOk, entDet F_spec_ColOk, entDet F_impl_within, entDet F_impl_WordOk, entDet F_impl_ValOk, entDet F_impl_ColOk, entDet F_laws_FnExactColOk⟩)
theorem all_ok : ∀ n, AllOk n
  | 0 => ⟨fnOk_zero fun a => rfl, fnOk_zero fun a => rfl, fnOk_zero fun a => rfl, fnOk_zero fun a => rfl, fnOk_zero fun a => rfl, fnOk_zero fun a => rfl, fnOk_zero fun a => rfl, fnOk_zero fun a => rfl, fnOk_zero fun a => rfl, fnOk_zero fun a => rfl, fnOk_zero fun a => rfl, fnOk_zero fun a => rfl, fnOk_zero fun a => rfl⟩
  | n + 1 => ⟨fnOk_succ envOk eqsOk (calls_ok (all_ok n)) (calls_det n) tabOk_nil (eq_laws_szVal n), fnOk_succ envOk eqsOk (calls_ok (all_ok n)) (calls_det n) tabOk_nil (eq_laws_szCol n), fnOk_succ envOk eqsOk (calls_ok (all_ok n)) (calls_det n) tabOk_nil (eq_laws_toVal n), fnOk_succ envOk eqsOk (calls_ok (all_ok n)) (calls_det n) tabOk_nil (eq_laws_toCol n), fnOk_succ envOk eqsOk (calls_ok (all_ok n)) (calls_det n) (tab_spec_WordOk n) (eq_spec_WordOk n), fnOk_succ envOk eqsOk (calls_ok (all_ok n)) (calls_det n) tabOk_nil (eq_spec_l01Num n), fnOk_succ envOk eqsOk (calls_ok (all_ok n)) (calls_det n) tabOk_nil (eq_spec_ValOk n), fnOk_succ envOk eqsOk (calls_ok (all_ok n)) (calls_det n) tabOk_nil (eq_spec_ColOk n), fnOk_succ envOk eqsOk (calls_ok (all_ok n)) (calls_det n) tabOk_nil (eq_impl_within n), fnOk_succ envOk eqsOk (calls_ok (all_ok n)) (calls_det n) (tab_impl_WordOk n) (eq_impl_WordOk n), fnOk_succ envOk eqsOk (calls_ok (all_ok n)) (calls_det n) tabOk_nil (eq_impl_ValOk n), fnOk_succ envOk eqsOk (calls_ok (all_ok n)) (calls_det n) tabOk_nil (eq_impl_ColOk n), fnOk_succ envOk eqsOk (calls_ok (all_ok n)) (calls_det n) tabOk_nil (eq_laws_FnExactColOk n)⟩
end Go.Proofs.Ytiahfopdamngiaa.Ev

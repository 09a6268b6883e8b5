/- The tables of the law FnExactGetNum: what the evaluator makes of the program is these functions. -/
import Derived.Test.YtiahfopdamngiaaEvFnFnExactGetNum
import Derived.Test.YtiahfopdamngiaaEvHead
import Derived.Test.YtiahfopdamngiaaEvEq
import Derived.Test.YtiahfopdamngiaaChecked
set_option linter.all false
namespace Go.Proofs.Ytiahfopdamngiaa.Ev
open Go Go.Proofs
def bytesT : List (Kd × Nat) := [((.int .u8), 1)]
def bytesOf (f : Kd) : Nat := ((bytesT.find? fun p => decide (p.1 = f)).map (·.2)).getD 1
theorem bytes_pos (f : Kd) : 1 ≤ bytesOf f := by
  unfold bytesOf
  cases h : bytesT.find? fun p => decide (p.1 = f) with
  | none => exact Nat.le_refl _
  | some p =>
    have hp : ∀ q ∈ bytesT, 1 ≤ q.2 := by decide
    exact hp p (List.mem_of_find?_eq_some h)
noncomputable def env : Env := ⟨[(3, ⟨1, 0, false, [], (.int .i64)⟩),
  (4, ⟨1, 0, false, [], .bool⟩),
  (5, ⟨1, 0, false, [], (.int .u8)⟩),
  (26, ⟨1, 1, false, [], (.sl (.int .u8))⟩)],
  [(7, Try.f7), (20, Try.f20), (22, Try.f22), (23, Try.f23), (24, Try.f24), (48, Try.f48)], [], [(20, [(3, ⟨25, []⟩)]), (22, [(4, ⟨35, []⟩)]), (23, [(5, ⟨775, []⟩)]), (24, [(5, ⟨120259084544, []⟩)])], []⟩
theorem envOk : EnvOk Try.prog env := envOk_of (by kernel_rfl) (by
  simp only [env, List.forall_mem_cons, List.not_mem_nil, false_implies, implies_true, and_true]
  exact ⟨⟨Try.func7, by kernel_rfl⟩, ⟨Try.func20, by kernel_rfl⟩, ⟨Try.func22, by kernel_rfl⟩, ⟨Try.func23, by kernel_rfl⟩, ⟨Try.func24, by kernel_rfl⟩, ⟨Try.func48, by kernel_rfl⟩⟩) (by kernel_rfl)
theorem eqsOk : EqsOk Try.prog env := eqsOk_of (by kernel_rfl)
def F_laws_toByteS : Fn' ((List Int) × Unit) (List Int) := ⟨20, (Tvs.cons (Tv.one (Lf.sh (.int .u8))) Tvs.nil), (Rt.v (Tv.one (Lf.od (.int .u8)))), fun n a => laws_toByteS n a.1⟩
def S_laws_toByteS_L1 := Sh.of (Sl.one (Lf.sh (.int .u8)) (Sl.gap 2 (Sl.k (Kf.ow 232) (Sl.one (Lf.int .i64) (Sl.gap 17 Sl.nil))))) (Rw.data 232 (.int .u8) Rw.nil) Ls.nil
def T_laws_toByteS (n : Nat) : Tab (List Int) := [([.b, .r, .l, .r, .r], row1 S_laws_toByteS_L1 fun j a => laws_toByteS_L1 n j a.1.1 a.1.2.1 a.2.1)]
def F_spec_GetNum : Fn' ((List Int) × (Int × (Int × Unit))) (Int × (Bool × Unit)) := ⟨23, (Tvs.cons (Tv.one (Lf.sh (.int .u8))) (Tvs.cons (Tv.one (Lf.int .i64)) (Tvs.cons (Tv.one (Lf.int .i64)) Tvs.nil))), (Rt.tup (Tvs.cons (Tv.one (Lf.int .i64)) (Tvs.cons (Tv.one Lf.bool) Tvs.nil))), fun n a => spec_GetNum n a.1 a.2.1 a.2.2.1⟩
def S_spec_GetNum_L1 := Sh.of (Sl.one (Lf.sh (.int .u8)) (Sl.one (Lf.int .i64) (Sl.one (Lf.int .i64) (Sl.gap 5 (Sl.one (Lf.int .i64) (Sl.one (Lf.int .i64) (Sl.gap 34 Sl.nil))))))) Rw.nil Ls.nil
def T_spec_GetNum (n : Nat) : Tab (Int × (Bool × Unit)) := [([.b, .r, .l, .r, .r, .r], row1 S_spec_GetNum_L1 fun j a => spec_GetNum_L1 n j a.1.1 a.1.2.1 a.1.2.2.1 a.1.2.2.2.1 a.1.2.2.2.2.1)]
def F_impl_within : Fn' (Int × (Int × (Int × Unit))) Bool := ⟨48, (Tvs.cons (Tv.one (Lf.int .i64)) (Tvs.cons (Tv.one (Lf.int .i64)) (Tvs.cons (Tv.one (Lf.int .i64)) Tvs.nil))), (Rt.v (Tv.one Lf.bool)), fun n a => impl_within n a.1 a.2.1 a.2.2.1⟩
def F_impl_GetNum : Fn' ((List Int) × (Int × (Int × Unit))) (Int × (Bool × Unit)) := ⟨24, (Tvs.cons (Tv.one (Lf.sh (.int .u8))) (Tvs.cons (Tv.one (Lf.int .i64)) (Tvs.cons (Tv.one (Lf.int .i64)) Tvs.nil))), (Rt.tup (Tvs.cons (Tv.one (Lf.int .i64)) (Tvs.cons (Tv.one Lf.bool) Tvs.nil))), fun n a => impl_GetNum n a.1 a.2.1 a.2.2.1⟩
def S_impl_GetNum_L1 := Sh.of (Sl.gap 8 (Sl.one (Lf.int .i64) (Sl.gap 25 (Sl.one (Lf.sh (.int .u8)) (Sl.one (Lf.int .i64) (Sl.one (Lf.int .i64) (Sl.gap 10 Sl.nil))))))) Rw.nil Ls.nil
def T_impl_GetNum (n : Nat) : Tab (Int × (Bool × Unit)) := [([.b, .r, .l, .r, .r, .r], row1 S_impl_GetNum_L1 fun j a => impl_GetNum_L1 n j a.1.1 a.1.2.1 a.1.2.2.1 a.1.2.2.2.1)]
def F_laws_eqByteS : Fn' ((List Int) × ((List Int) × Unit)) Bool := ⟨22, (Tvs.cons (Tv.one (Lf.sh (.int .u8))) (Tvs.cons (Tv.one (Lf.sh (.int .u8))) Tvs.nil)), (Rt.v (Tv.one Lf.bool)), fun n a => laws_eqByteS n a.1 a.2.1⟩
def S_laws_eqByteS_L1 := Sh.of (Sl.one (Lf.sh (.int .u8)) (Sl.one (Lf.sh (.int .u8)) (Sl.gap 3 (Sl.one (Lf.int .i64) (Sl.gap 20 Sl.nil))))) Rw.nil Ls.nil
def T_laws_eqByteS (n : Nat) : Tab Bool := [([.b, .r, .l, .r, .r], row1 S_laws_eqByteS_L1 fun j a => laws_eqByteS_L1 n j a.1.1 a.1.2.1 a.1.2.2.1)]
def F_laws_FnExactGetNum : Fn' ((List Int) × (Int × (Int × Unit))) Bool := ⟨7, (Tvs.cons (Tv.one (Lf.sh (.int .u8))) (Tvs.cons (Tv.one (Lf.int .i64)) (Tvs.cons (Tv.one (Lf.int .i64)) Tvs.nil))), (Rt.v (Tv.one Lf.bool)), fun n a => laws_FnExactGetNum n a.1 a.2.1 a.2.2.1⟩
def ents : List Ent := [entOf F_laws_toByteS, entOf F_spec_GetNum, entOf F_impl_within, entOf F_impl_GetNum, entOf F_laws_eqByteS, entOf F_laws_FnExactGetNum]
def callC (n : Nat) : CF := chain ents n
theorem eq_laws_toByteS (n : Nat) (a) : evalBodyU env (callC n) n F_laws_toByteS.g (T_laws_toByteS n) (F_laws_toByteS.args.to a) F_laws_toByteS.ret.un = F_laws_toByteS.run (n + 1) a := by kernel_rfl
theorem tab_laws_toByteS (n : Nat) : TabOk env (callC n) n F_laws_toByteS.g (T_laws_toByteS n) F_laws_toByteS.ret.un := tabOk (List.forall_mem_cons.mpr ⟨row1_ok (fun _ => rfl) (fun _ _ => by kernel_rfl), List.forall_mem_nil _⟩)
theorem eq_spec_GetNum (n : Nat) (a) : evalBodyU env (callC n) n F_spec_GetNum.g (T_spec_GetNum n) (F_spec_GetNum.args.to a) F_spec_GetNum.ret.un = F_spec_GetNum.run (n + 1) a := by kernel_rfl
theorem tab_spec_GetNum (n : Nat) : TabOk env (callC n) n F_spec_GetNum.g (T_spec_GetNum n) F_spec_GetNum.ret.un := tabOk (List.forall_mem_cons.mpr ⟨row1_ok (fun _ => rfl) (fun _ _ => by kernel_rfl), List.forall_mem_nil _⟩)
theorem eq_impl_within (n : Nat) (a) : evalBodyU env (callC n) n F_impl_within.g [] (F_impl_within.args.to a) F_impl_within.ret.un = F_impl_within.run (n + 1) a := by kernel_rfl
theorem eq_impl_GetNum (n : Nat) (a) : evalBodyU env (callC n) n F_impl_GetNum.g (T_impl_GetNum n) (F_impl_GetNum.args.to a) F_impl_GetNum.ret.un = F_impl_GetNum.run (n + 1) a := by kernel_rfl
theorem tab_impl_GetNum (n : Nat) : TabOk env (callC n) n F_impl_GetNum.g (T_impl_GetNum n) F_impl_GetNum.ret.un := tabOk (List.forall_mem_cons.mpr ⟨row1_ok (fun _ => rfl) (fun _ _ => by kernel_rfl), List.forall_mem_nil _⟩)
theorem eq_laws_eqByteS (n : Nat) (a) : evalBodyU env (callC n) n F_laws_eqByteS.g (T_laws_eqByteS n) (F_laws_eqByteS.args.to a) F_laws_eqByteS.ret.un = F_laws_eqByteS.run (n + 1) a := by kernel_rfl
theorem tab_laws_eqByteS (n : Nat) : TabOk env (callC n) n F_laws_eqByteS.g (T_laws_eqByteS n) F_laws_eqByteS.ret.un := tabOk (List.forall_mem_cons.mpr ⟨row1_ok (fun _ => rfl) (fun _ _ => by kernel_rfl), List.forall_mem_nil _⟩)
theorem eq_laws_FnExactGetNum (n : Nat) (a) : evalBodyU env (callC n) n F_laws_FnExactGetNum.g [] (F_laws_FnExactGetNum.args.to a) F_laws_FnExactGetNum.ret.un = F_laws_FnExactGetNum.run (n + 1) a := by kernel_rfl
structure AllOk (n : Nat) : Prop where
  o_laws_toByteS : FnOk Try.prog F_laws_toByteS n
  o_spec_GetNum : FnOk Try.prog F_spec_GetNum n
  o_impl_within : FnOk Try.prog F_impl_within n
  o_impl_GetNum : FnOk Try.prog F_impl_GetNum n
  o_laws_eqByteS : FnOk Try.prog F_laws_eqByteS n
  o_laws_FnExactGetNum : FnOk Try.prog F_laws_FnExactGetNum n
theorem calls_ok {n : Nat} (h : AllOk n) : CFok Try.prog (callC n) := chain_ok (by
  simp only [ents, List.forall_mem_cons, List.not_mem_nil, false_implies, implies_true, and_true]
  exact ⟨entOk_of h.o_laws_toByteS, entOk_of h.o_spec_GetNum, entOk_of h.o_impl_within, entOk_of h.o_impl_GetNum, entOk_of h.o_laws_eqByteS, entOk_of h.o_laws_FnExactGetNum⟩)
theorem calls_det (n : Nat) : CFdet (callC n) := chain_det (by
  simp only [ents, List.forall_mem_cons, List.not_mem_nil, false_implies, implies_true, and_true]
  exact ⟨entDet F_laws_toByteS, entDet F_spec_GetNum, entDet F_impl_within, entDet F_impl_GetNum, entDet F_laws_eqByteS, entDet F_laws_FnExactGetNum⟩)
theorem all_ok : ∀ n, AllOk n
  | 0 => ⟨fnOk_zero fun a => rfl, fnOk_zero fun a => rfl, fnOk_zero fun a => rfl, fnOk_zero fun a => rfl, fnOk_zero fun a => rfl, fnOk_zero fun a => rfl⟩
  | n + 1 => ⟨fnOk_succ envOk eqsOk (calls_ok (all_ok n)) (calls_det n) (tab_laws_toByteS n) (eq_laws_toByteS n), fnOk_succ envOk eqsOk (calls_ok (all_ok n)) (calls_det n) (tab_spec_GetNum n) (eq_spec_GetNum n), fnOk_succ envOk eqsOk (calls_ok (all_ok n)) (calls_det n) tabOk_nil (eq_impl_within n), fnOk_succ envOk eqsOk (calls_ok (all_ok n)) (calls_det n) (tab_impl_GetNum n) (eq_impl_GetNum n), fnOk_succ envOk eqsOk (calls_ok (all_ok n)) (calls_det n) (tab_laws_eqByteS n) (eq_laws_eqByteS n), fnOk_succ envOk eqsOk (calls_ok (all_ok n)) (calls_det n) tabOk_nil (eq_laws_FnExactGetNum n)⟩
end Go.Proofs.Ytiahfopdamngiaa.Ev

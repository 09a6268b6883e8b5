/- The tables of the law FnExactKeyLess: what the evaluator makes of the program is these functions. -/
import Derived.Test.YthfkolhjnioblaaEvFnFnExactKeyLess
import Derived.Test.YthfkolhjnioblaaEvHead
import Derived.Test.YthfkolhjnioblaaEvEq
import Derived.Test.YthfkolhjnioblaaChecked
set_option linter.all false
namespace Go.Proofs.Ythfkolhjnioblaa.Ev
open Go Go.Proofs
def bytesT : List (Kd × Nat) := [((.pair (.int .i64) (.pair (.int .i64) .str)), 32)]
def bytesOf (f : Kd) : Nat := ((bytesT.find? fun p => decide (p.1 = f)).map (·.2)).getD 1
theorem bytes_pos (f : Kd) : 1 ≤ bytesOf f := by
  unfold bytesOf
  cases h : bytesT.find? fun p => decide (p.1 = f) with
  | none => exact Nat.le_refl _
  | some p =>
    have hp : ∀ q ∈ bytesT, 1 ≤ q.2 := by decide
    exact hp p (List.mem_of_find?_eq_some h)
noncomputable def env : Env := ⟨[(3, ⟨1, 0, false, [], (.int .i64)⟩),
  (4, ⟨1, 0, false, [], .bool⟩),
  (9, ⟨1, 0, false, [], .str⟩),
  (22, ⟨1, 32, false, [], (.sl (.pair (.int .i64) (.pair (.int .i64) .str)))⟩),
  (25, ⟨1, 32, false, [], (.sl (.pair (.int .i64) (.pair (.int .i64) .str)))⟩),
  (29, ⟨3, 0, true, [(0, 1), (1, 1), (2, 1)], (.pair (.int .i64) (.pair (.int .i64) .str))⟩),
  (32, ⟨3, 0, true, [(0, 1), (1, 1), (2, 1)], (.pair (.int .i64) (.pair (.int .i64) .str))⟩)],
  [(3, Try.f3), (15, Try.f15), (16, Try.f16), (17, Try.f17), (18, Try.f18), (19, Try.f19), (20, Try.f20), (22, Try.f22), (47, Try.f47), (63, Try.f63), (64, Try.f64), (65, Try.f65), (69, Try.f69), (71, Try.f71), (103, Try.f103)], [], [(15, [(5, ⟨35, []⟩)]), (16, [(2, ⟨35, []⟩)]), (17, [(3, ⟨25, []⟩)]), (18, [(2, ⟨35, []⟩)]), (19, [(4, ⟨35, []⟩)])], [32]⟩
theorem envOk : EnvOk Try.prog env := envOk_of (by kernel_rfl) (by
  simp only [env, List.forall_mem_cons, List.not_mem_nil, false_implies, implies_true, and_true]
  exact ⟨⟨Try.func3, by kernel_rfl⟩, ⟨Try.func15, by kernel_rfl⟩, ⟨Try.func16, by kernel_rfl⟩, ⟨Try.func17, by kernel_rfl⟩, ⟨Try.func18, by kernel_rfl⟩, ⟨Try.func19, by kernel_rfl⟩, ⟨Try.func20, by kernel_rfl⟩, ⟨Try.func22, by kernel_rfl⟩, ⟨Try.func47, by kernel_rfl⟩, ⟨Try.func63, by kernel_rfl⟩, ⟨Try.func64, by kernel_rfl⟩, ⟨Try.func65, by kernel_rfl⟩, ⟨Try.func69, by kernel_rfl⟩, ⟨Try.func71, by kernel_rfl⟩, ⟨Try.func103, by kernel_rfl⟩⟩) (by kernel_rfl)
theorem eqsOk : EqsOk Try.prog env := eqsOk_of (by kernel_rfl)
def F_laws_szVal : Fn' ((Int × (Int × ByteArray)) × (Int × Unit)) Int := ⟨20, (Tvs.cons (Tv.agg (Ls.cons (Lf.int .i64) (Ls.cons (Lf.int .i64) (Ls.one Lf.str)))) (Tvs.cons (Tv.one (Lf.int .i64)) Tvs.nil)), (Rt.v (Tv.one (Lf.int .i64))), fun n a => laws_szVal n a.1.1 a.1.2.1 a.1.2.2 a.2.1⟩
def F_laws_szValS : Fn' ((List (Int × (Int × ByteArray))) × (Int × Unit)) Int := ⟨15, (Tvs.cons (Tv.one (Lf.sh (.pair (.int .i64) (.pair (.int .i64) .str)))) (Tvs.cons (Tv.one (Lf.int .i64)) Tvs.nil)), (Rt.v (Tv.one (Lf.int .i64))), fun n a => laws_szValS n a.1 a.2.1⟩
def S_laws_szValS_L1 := Sh.of (Sl.one (Lf.sh (.pair (.int .i64) (.pair (.int .i64) .str))) (Sl.one (Lf.int .i64) (Sl.gap 3 (Sl.one (Lf.int .i64) (Sl.gap 21 Sl.nil))))) Rw.nil Ls.nil
def T_laws_szValS (n : Nat) : Tab Int := [([.b, .r, .l, .r, .r, .r], row1 S_laws_szValS_L1 fun j a => laws_szValS_L1 n j a.1.1 a.1.2.1 a.1.2.2.1)]
def F_laws_toVal : Fn' ((Int × (Int × ByteArray)) × Unit) (Int × (Int × ByteArray)) := ⟨22, (Tvs.cons (Tv.agg (Ls.cons (Lf.int .i64) (Ls.cons (Lf.int .i64) (Ls.one Lf.str)))) Tvs.nil), (Rt.v (Tv.agg (Ls.cons (Lf.int .i64) (Ls.cons (Lf.int .i64) (Ls.one Lf.str))))), fun n a => laws_toVal n a.1.1 a.1.2.1 a.1.2.2⟩
def F_laws_toValS : Fn' ((List (Int × (Int × ByteArray))) × Unit) (List (Int × (Int × ByteArray))) := ⟨17, (Tvs.cons (Tv.one (Lf.sh (.pair (.int .i64) (.pair (.int .i64) .str)))) Tvs.nil), (Rt.v (Tv.one (Lf.od (.pair (.int .i64) (.pair (.int .i64) .str))))), fun n a => laws_toValS n a.1⟩
def S_laws_toValS_L1 := Sh.of (Sl.one (Lf.sh (.pair (.int .i64) (.pair (.int .i64) .str))) (Sl.gap 2 (Sl.k (Kf.ow 232) (Sl.one (Lf.int .i64) (Sl.gap 18 Sl.nil))))) (Rw.data 232 (.pair (.int .i64) (.pair (.int .i64) .str)) Rw.nil) Ls.nil
def T_laws_toValS (n : Nat) : Tab (List (Int × (Int × ByteArray))) := [([.b, .r, .l, .r, .r], row1 S_laws_toValS_L1 fun j a => laws_toValS_L1 n j a.1.1 a.1.2.1 a.2.1)]
def F_spec_l01Num : Fn' (Int × Unit) Bool := ⟨103, (Tvs.cons (Tv.one (Lf.int .i64)) Tvs.nil), (Rt.v (Tv.one Lf.bool)), fun n a => spec_l01Num n a.1⟩
def F_spec_ValOk : Fn' ((Int × (Int × ByteArray)) × Unit) Bool := ⟨65, (Tvs.cons (Tv.agg (Ls.cons (Lf.int .i64) (Ls.cons (Lf.int .i64) (Ls.one Lf.str)))) Tvs.nil), (Rt.v (Tv.one Lf.bool)), fun n a => spec_ValOk n a.1.1 a.1.2.1 a.1.2.2⟩
def F_spec_ValLess : Fn' ((Int × (Int × ByteArray)) × ((Int × (Int × ByteArray)) × Unit)) Bool := ⟨63, (Tvs.cons (Tv.agg (Ls.cons (Lf.int .i64) (Ls.cons (Lf.int .i64) (Ls.one Lf.str)))) (Tvs.cons (Tv.agg (Ls.cons (Lf.int .i64) (Ls.cons (Lf.int .i64) (Ls.one Lf.str)))) Tvs.nil)), (Rt.v (Tv.one Lf.bool)), fun n a => spec_ValLess n a.1.1 a.1.2.1 a.1.2.2 a.2.1.1 a.2.1.2.1 a.2.1.2.2⟩
def F_spec_KeyLess : Fn' ((List (Int × (Int × ByteArray))) × ((List (Int × (Int × ByteArray))) × Unit)) Bool := ⟨16, (Tvs.cons (Tv.one (Lf.sh (.pair (.int .i64) (.pair (.int .i64) .str)))) (Tvs.cons (Tv.one (Lf.sh (.pair (.int .i64) (.pair (.int .i64) .str)))) Tvs.nil)), (Rt.v (Tv.one Lf.bool)), fun n a => spec_KeyLess n a.1 a.2.1⟩
def S_spec_KeyLess_L1 := Sh.of (Sl.one (Lf.sh (.pair (.int .i64) (.pair (.int .i64) .str))) (Sl.one (Lf.sh (.pair (.int .i64) (.pair (.int .i64) .str))) (Sl.gap 3 (Sl.one (Lf.int .i64) (Sl.gap 35 Sl.nil))))) Rw.nil Ls.nil
def T_spec_KeyLess (n : Nat) : Tab Bool := [([.b, .r, .l, .r], row1 S_spec_KeyLess_L1 fun j a => spec_KeyLess_L1 n j a.1.1 a.1.2.1 a.1.2.2.1)]
def F_impl_within : Fn' (Int × (Int × (Int × Unit))) Bool := ⟨71, (Tvs.cons (Tv.one (Lf.int .i64)) (Tvs.cons (Tv.one (Lf.int .i64)) (Tvs.cons (Tv.one (Lf.int .i64)) Tvs.nil))), (Rt.v (Tv.one Lf.bool)), fun n a => impl_within n a.1 a.2.1 a.2.2.1⟩
def F_impl_ValOk : Fn' ((Int × (Int × ByteArray)) × Unit) Bool := ⟨69, (Tvs.cons (Tv.agg (Ls.cons (Lf.int .i64) (Ls.cons (Lf.int .i64) (Ls.one Lf.str)))) Tvs.nil), (Rt.v (Tv.one Lf.bool)), fun n a => impl_ValOk n a.1.1 a.1.2.1 a.1.2.2⟩
def F_impl_ValLess : Fn' ((Int × (Int × ByteArray)) × ((Int × (Int × ByteArray)) × Unit)) Bool := ⟨64, (Tvs.cons (Tv.agg (Ls.cons (Lf.int .i64) (Ls.cons (Lf.int .i64) (Ls.one Lf.str)))) (Tvs.cons (Tv.agg (Ls.cons (Lf.int .i64) (Ls.cons (Lf.int .i64) (Ls.one Lf.str)))) Tvs.nil)), (Rt.v (Tv.one Lf.bool)), fun n a => impl_ValLess n a.1.1 a.1.2.1 a.1.2.2 a.2.1.1 a.2.1.2.1 a.2.1.2.2⟩
def F_impl_KeyLess : Fn' ((List (Int × (Int × ByteArray))) × ((List (Int × (Int × ByteArray))) × Unit)) Bool := ⟨18, (Tvs.cons (Tv.one (Lf.sh (.pair (.int .i64) (.pair (.int .i64) .str)))) (Tvs.cons (Tv.one (Lf.sh (.pair (.int .i64) (.pair (.int .i64) .str)))) Tvs.nil)), (Rt.v (Tv.one Lf.bool)), fun n a => impl_KeyLess n a.1 a.2.1⟩
def S_impl_KeyLess_L1 := Sh.of (Sl.one (Lf.sh (.pair (.int .i64) (.pair (.int .i64) .str))) (Sl.one (Lf.sh (.pair (.int .i64) (.pair (.int .i64) .str))) (Sl.gap 3 (Sl.one (Lf.int .i64) (Sl.gap 35 Sl.nil))))) Rw.nil Ls.nil
def T_impl_KeyLess (n : Nat) : Tab Bool := [([.b, .r, .l, .r], row1 S_impl_KeyLess_L1 fun j a => impl_KeyLess_L1 n j a.1.1 a.1.2.1 a.1.2.2.1)]
def F_laws_eqVal : Fn' ((Int × (Int × ByteArray)) × ((Int × (Int × ByteArray)) × Unit)) Bool := ⟨47, (Tvs.cons (Tv.agg (Ls.cons (Lf.int .i64) (Ls.cons (Lf.int .i64) (Ls.one Lf.str)))) (Tvs.cons (Tv.agg (Ls.cons (Lf.int .i64) (Ls.cons (Lf.int .i64) (Ls.one Lf.str)))) Tvs.nil)), (Rt.v (Tv.one Lf.bool)), fun n a => laws_eqVal n a.1.1 a.1.2.1 a.1.2.2 a.2.1.1 a.2.1.2.1 a.2.1.2.2⟩
def F_laws_eqValS : Fn' ((List (Int × (Int × ByteArray))) × ((List (Int × (Int × ByteArray))) × Unit)) Bool := ⟨19, (Tvs.cons (Tv.one (Lf.sh (.pair (.int .i64) (.pair (.int .i64) .str)))) (Tvs.cons (Tv.one (Lf.sh (.pair (.int .i64) (.pair (.int .i64) .str)))) Tvs.nil)), (Rt.v (Tv.one Lf.bool)), fun n a => laws_eqValS n a.1 a.2.1⟩
def S_laws_eqValS_L1 := Sh.of (Sl.one (Lf.sh (.pair (.int .i64) (.pair (.int .i64) .str))) (Sl.one (Lf.sh (.pair (.int .i64) (.pair (.int .i64) .str))) (Sl.gap 3 (Sl.one (Lf.int .i64) (Sl.gap 21 Sl.nil))))) Rw.nil Ls.nil
def T_laws_eqValS (n : Nat) : Tab Bool := [([.b, .r, .l, .r, .r], row1 S_laws_eqValS_L1 fun j a => laws_eqValS_L1 n j a.1.1 a.1.2.1 a.1.2.2.1)]
def F_laws_FnExactKeyLess : Fn' ((List (Int × (Int × ByteArray))) × ((List (Int × (Int × ByteArray))) × Unit)) Bool := ⟨3, (Tvs.cons (Tv.one (Lf.sh (.pair (.int .i64) (.pair (.int .i64) .str)))) (Tvs.cons (Tv.one (Lf.sh (.pair (.int .i64) (.pair (.int .i64) .str)))) Tvs.nil)), (Rt.v (Tv.one Lf.bool)), fun n a => laws_FnExactKeyLess n a.1 a.2.1⟩
def ents : List Ent := [entOf F_laws_szVal, entOf F_laws_szValS, entOf F_laws_toVal, entOf F_laws_toValS, entOf F_spec_l01Num, entOf F_spec_ValOk, entOf F_spec_ValLess, entOf F_spec_KeyLess, entOf F_impl_within, entOf F_impl_ValOk, entOf F_impl_ValLess, entOf F_impl_KeyLess, entOf F_laws_eqVal, entOf F_laws_eqValS, entOf F_laws_FnExactKeyLess]
def callC (n : Nat) : CF := chain ents n
theorem eq_laws_szVal (n : Nat) (a) : evalBodyU env (callC n) n F_laws_szVal.g [] (F_laws_szVal.args.to a) F_laws_szVal.ret.un = F_laws_szVal.run (n + 1) a := by kernel_rfl
theorem eq_laws_szValS (n : Nat) (a) : evalBodyU env (callC n) n F_laws_szValS.g (T_laws_szValS n) (F_laws_szValS.args.to a) F_laws_szValS.ret.un = F_laws_szValS.run (n + 1) a := by kernel_rfl
theorem tab_laws_szValS (n : Nat) : TabOk env (callC n) n F_laws_szValS.g (T_laws_szValS n) F_laws_szValS.ret.un := tabOk (List.forall_mem_cons.mpr ⟨row1_ok (fun _ => rfl) (fun _ _ => by kernel_rfl), List.forall_mem_nil _⟩)
theorem eq_laws_toVal (n : Nat) (a) : evalBodyU env (callC n) n F_laws_toVal.g [] (F_laws_toVal.args.to a) F_laws_toVal.ret.un = F_laws_toVal.run (n + 1) a := by kernel_rfl
theorem eq_laws_toValS (n : Nat) (a) : evalBodyU env (callC n) n F_laws_toValS.g (T_laws_toValS n) (F_laws_toValS.args.to a) F_laws_toValS.ret.un = F_laws_toValS.run (n + 1) a := by kernel_rfl
theorem tab_laws_toValS (n : Nat) : TabOk env (callC n) n F_laws_toValS.g (T_laws_toValS n) F_laws_toValS.ret.un := tabOk (List.forall_mem_cons.mpr ⟨row1_ok (fun _ => rfl) (fun _ _ => by kernel_rfl), List.forall_mem_nil _⟩)
theorem eq_spec_l01Num (n : Nat) (a) : evalBodyU env (callC n) n F_spec_l01Num.g [] (F_spec_l01Num.args.to a) F_spec_l01Num.ret.un = F_spec_l01Num.run (n + 1) a := by kernel_rfl
theorem eq_spec_ValOk (n : Nat) (a) : evalBodyU env (callC n) n F_spec_ValOk.g [] (F_spec_ValOk.args.to a) F_spec_ValOk.ret.un = F_spec_ValOk.run (n + 1) a := by kernel_rfl
theorem eq_spec_ValLess (n : Nat) (a) : evalBodyU env (callC n) n F_spec_ValLess.g [] (F_spec_ValLess.args.to a) F_spec_ValLess.ret.un = F_spec_ValLess.run (n + 1) a := by kernel_rfl
theorem eq_spec_KeyLess (n : Nat) (a) : evalBodyU env (callC n) n F_spec_KeyLess.g (T_spec_KeyLess n) (F_spec_KeyLess.args.to a) F_spec_KeyLess.ret.un = F_spec_KeyLess.run (n + 1) a := by kernel_rfl
theorem tab_spec_KeyLess (n : Nat) : TabOk env (callC n) n F_spec_KeyLess.g (T_spec_KeyLess n) F_spec_KeyLess.ret.un := tabOk (List.forall_mem_cons.mpr ⟨row1_ok (fun _ => rfl) (fun _ _ => by kernel_rfl), List.forall_mem_nil _⟩)
theorem eq_impl_within (n : Nat) (a) : evalBodyU env (callC n) n F_impl_within.g [] (F_impl_within.args.to a) F_impl_within.ret.un = F_impl_within.run (n + 1) a := by kernel_rfl
theorem eq_impl_ValOk (n : Nat) (a) : evalBodyU env (callC n) n F_impl_ValOk.g [] (F_impl_ValOk.args.to a) F_impl_ValOk.ret.un = F_impl_ValOk.run (n + 1) a := by kernel_rfl
theorem eq_impl_ValLess (n : Nat) (a) : evalBodyU env (callC n) n F_impl_ValLess.g [] (F_impl_ValLess.args.to a) F_impl_ValLess.ret.un = F_impl_ValLess.run (n + 1) a := by kernel_rfl
theorem eq_impl_KeyLess (n : Nat) (a) : evalBodyU env (callC n) n F_impl_KeyLess.g (T_impl_KeyLess n) (F_impl_KeyLess.args.to a) F_impl_KeyLess.ret.un = F_impl_KeyLess.run (n + 1) a := by kernel_rfl
theorem tab_impl_KeyLess (n : Nat) : TabOk env (callC n) n F_impl_KeyLess.g (T_impl_KeyLess n) F_impl_KeyLess.ret.un := tabOk (List.forall_mem_cons.mpr ⟨row1_ok (fun _ => rfl) (fun _ _ => by kernel_rfl), List.forall_mem_nil _⟩)
theorem eq_laws_eqVal (n : Nat) (a) : evalBodyU env (callC n) n F_laws_eqVal.g [] (F_laws_eqVal.args.to a) F_laws_eqVal.ret.un = F_laws_eqVal.run (n + 1) a := by kernel_rfl
theorem eq_laws_eqValS (n : Nat) (a) : evalBodyU env (callC n) n F_laws_eqValS.g (T_laws_eqValS n) (F_laws_eqValS.args.to a) F_laws_eqValS.ret.un = F_laws_eqValS.run (n + 1) a := by kernel_rfl
theorem tab_laws_eqValS (n : Nat) : TabOk env (callC n) n F_laws_eqValS.g (T_laws_eqValS n) F_laws_eqValS.ret.un := tabOk (List.forall_mem_cons.mpr ⟨row1_ok (fun _ => rfl) (fun _ _ => by kernel_rfl), List.forall_mem_nil _⟩)
theorem eq_laws_FnExactKeyLess (n : Nat) (a) : evalBodyU env (callC n) n F_laws_FnExactKeyLess.g [] (F_laws_FnExactKeyLess.args.to a) F_laws_FnExactKeyLess.ret.un = F_laws_FnExactKeyLess.run (n + 1) a := by kernel_rfl
structure AllOk (n : Nat) : Prop where
  o_laws_szVal : FnOk Try.prog F_laws_szVal n
  o_laws_szValS : FnOk Try.prog F_laws_szValS n
  o_laws_toVal : FnOk Try.prog F_laws_toVal n
  o_laws_toValS : FnOk Try.prog F_laws_toValS n
  o_spec_l01Num : FnOk Try.prog F_spec_l01Num n
  o_spec_ValOk : FnOk Try.prog F_spec_ValOk n
  o_spec_ValLess : FnOk Try.prog F_spec_ValLess n
  o_spec_KeyLess : FnOk Try.prog F_spec_KeyLess n
  o_impl_within : FnOk Try.prog F_impl_within n
  o_impl_ValOk : FnOk Try.prog F_impl_ValOk n
  o_impl_ValLess : FnOk Try.prog F_impl_ValLess n
  o_impl_KeyLess : FnOk Try.prog F_impl_KeyLess n
  o_laws_eqVal : FnOk Try.prog F_laws_eqVal n
  o_laws_eqValS : FnOk Try.prog F_laws_eqValS n
  o_laws_FnExactKeyLess : FnOk Try.prog F_laws_FnExactKeyLess n
theorem calls_ok {n : Nat} (h : AllOk n) : CFok Try.prog (callC n) := chain_ok (by
  simp only [ents, List.forall_mem_cons, List.not_mem_nil, false_implies, implies_true, and_true]
  exact ⟨entOk_of h.o_laws_szVal, entOk_of h.o_laws_szValS, entOk_of h.o_laws_toVal, entOk_of h.o_laws_toValS, entOk_of h.o_spec_l01Num, entOk_of h.o_spec_ValOk, entOk_of h.o_spec_ValLess, entOk_of h.o_spec_KeyLess, entOk_of h.o_impl_within, entOk_of h.o_impl_ValOk, entOk_of h.o_impl_ValLess, entOk_of h.o_impl_KeyLess, entOk_of h.o_laws_eqVal, entOk_of h.o_laws_eqValS, entOk_of h.o_laws_FnExactKeyLess⟩)
theorem calls_det (n : Nat) : CFdet (callC n) := chain_det (by
  simp only [ents, List.forall_mem_cons, List.not_mem_nil, false_implies, implies_true, and_true]
  exact ⟨entDet F_laws_szVal, entDet F_laws_szValS, entDet F_laws_toVal, entDet F_laws_toValS, entDet F_spec_l01Num, entDet F_spec_ValOk, entDet F_spec_ValLess, entDet F_spec_KeyLess, entDet F_impl_within, entDet F_impl_ValOk, entDet F_impl_ValLess, entDet F_impl_KeyLess, entDet F_laws_eqVal, entDet F_laws_eqValS, entDet F_laws_FnExactKeyLess⟩)
theorem all_ok : ∀ n, AllOk n
  | 0 => ⟨fnOk_zero fun a => rfl, fnOk_zero fun a => rfl, fnOk_zero fun a => rfl, fnOk_zero fun a => rfl, fnOk_zero fun a => rfl, fnOk_zero fun a => rfl, fnOk_zero fun a => rfl, fnOk_zero fun a => rfl, fnOk_zero fun a => rfl, fnOk_zero fun a => rfl, fnOk_zero fun a => rfl, fnOk_zero fun a => rfl, fnOk_zero fun a => rfl, fnOk_zero fun a => rfl, fnOk_zero fun a => rfl⟩
  | n + 1 => ⟨fnOk_succ envOk eqsOk (calls_ok (all_ok n)) (calls_det n) tabOk_nil (eq_laws_szVal n), fnOk_succ envOk eqsOk (calls_ok (all_ok n)) (calls_det n) (tab_laws_szValS n) (eq_laws_szValS n), fnOk_succ envOk eqsOk (calls_ok (all_ok n)) (calls_det n) tabOk_nil (eq_laws_toVal n), fnOk_succ envOk eqsOk (calls_ok (all_ok n)) (calls_det n) (tab_laws_toValS n) (eq_laws_toValS n), fnOk_succ envOk eqsOk (calls_ok (all_ok n)) (calls_det n) tabOk_nil (eq_spec_l01Num n), fnOk_succ envOk eqsOk (calls_ok (all_ok n)) (calls_det n) tabOk_nil (eq_spec_ValOk n), fnOk_succ envOk eqsOk (calls_ok (all_ok n)) (calls_det n) tabOk_nil (eq_spec_ValLess n), fnOk_succ envOk eqsOk (calls_ok (all_ok n)) (calls_det n) (tab_spec_KeyLess n) (eq_spec_KeyLess n), fnOk_succ envOk eqsOk (calls_ok (all_ok n)) (calls_det n) tabOk_nil (eq_impl_within n), fnOk_succ envOk eqsOk (calls_ok (all_ok n)) (calls_det n) tabOk_nil (eq_impl_ValOk n), fnOk_succ envOk eqsOk (calls_ok (all_ok n)) (calls_det n) tabOk_nil (eq_impl_ValLess n), fnOk_succ envOk eqsOk (calls_ok (all_ok n)) (calls_det n) (tab_impl_KeyLess n) (eq_impl_KeyLess n), fnOk_succ envOk eqsOk (calls_ok (all_ok n)) (calls_det n) tabOk_nil (eq_laws_eqVal n), fnOk_succ envOk eqsOk (calls_ok (all_ok n)) (calls_det n) (tab_laws_eqValS n) (eq_laws_eqValS n), fnOk_succ envOk eqsOk (calls_ok (all_ok n)) (calls_det n) tabOk_nil (eq_laws_FnExactKeyLess n)⟩
end Go.Proofs.Ythfkolhjnioblaa.Ev

/- The tables of the law FnExactTextNum: what the evaluator makes of the program is these functions. -/
import Derived.Test.YtiahfopdamngiaaEvFnFnExactTextNum
import Derived.Test.YtiahfopdamngiaaEvHead
import Derived.Test.YtiahfopdamngiaaEvEq
import Derived.Test.YtiahfopdamngiaaChecked
set_option linter.all false
namespace Go.Proofs.Ytiahfopdamngiaa.Ev
open Go Go.Proofs
def bytesT : List (Kd × Nat) := []
def bytesOf (f : Kd) : Nat := ((bytesT.find? fun p => decide (p.1 = f)).map (·.2)).getD 1
theorem bytes_pos (f : Kd) : 1 ≤ bytesOf f := by
  unfold bytesOf
  cases h : bytesT.find? fun p => decide (p.1 = f) with
  | none => exact Nat.le_refl _
  | some p =>
    have hp : ∀ q ∈ bytesT, 1 ≤ q.2 := by decide
    exact hp p (List.mem_of_find?_eq_some h)
noncomputable def env : Env := ⟨[(3, ⟨1, 0, false, [], (.int .i64)⟩),
  (4, ⟨1, 0, false, [], .bool⟩),
  (5, ⟨1, 0, false, [], (.int .u8)⟩),
  (9, ⟨1, 0, false, [], .str⟩),
  (26, ⟨1, 1, false, [], (.sl (.int .u8))⟩)],
  [(13, Try.f13), (17, Try.f17), (18, Try.f18), (42, Try.f42), (43, Try.f43), (48, Try.f48), (49, Try.f49)], [], [(18, [(6, ⟨9, []⟩)]), (42, [(5, ⟨49, []⟩)]), (43, [(8, ⟨113, []⟩)])], []⟩
theorem envOk : EnvOk Try.prog env := envOk_of (by kernel_rfl) (by
  simp only [env, List.forall_mem_cons, List.not_mem_nil, false_implies, implies_true, and_true]
  exact ⟨⟨Try.func13, by kernel_rfl⟩, ⟨Try.func17, by kernel_rfl⟩, ⟨Try.func18, by kernel_rfl⟩, ⟨Try.func42, by kernel_rfl⟩, ⟨Try.func43, by kernel_rfl⟩, ⟨Try.func48, by kernel_rfl⟩, ⟨Try.func49, by kernel_rfl⟩⟩) (by kernel_rfl)
theorem eqsOk : EqsOk Try.prog env := eqsOk_of (by kernel_rfl)
def F_spec_l01Num : Fn' (Int × Unit) Bool := ⟨49, (Tvs.cons (Tv.one (Lf.int .i64)) Tvs.nil), (Rt.v (Tv.one Lf.bool)), fun n a => spec_l01Num n a.1⟩
def F_spec_NumText : Fn' (Int × Unit) ByteArray := ⟨17, (Tvs.cons (Tv.one (Lf.int .i64)) Tvs.nil), (Rt.v (Tv.one Lf.str)), fun n a => spec_NumText n a.1⟩
def F_spec_TextNum : Fn' (ByteArray × Unit) (Int × (Bool × Unit)) := ⟨42, (Tvs.cons (Tv.one Lf.str) Tvs.nil), (Rt.tup (Tvs.cons (Tv.one (Lf.int .i64)) (Tvs.cons (Tv.one Lf.bool) Tvs.nil))), fun n a => spec_TextNum n a.1⟩
def S_spec_TextNum_L1 := Sh.of (Sl.one Lf.str (Sl.gap 3 (Sl.one (Lf.int .i64) (Sl.one (Lf.int .i64) (Sl.gap 49 Sl.nil))))) Rw.nil Ls.nil
def T_spec_TextNum (n : Nat) : Tab (Int × (Bool × Unit)) := [([.b, .r, .l, .r, .r, .r], row1 S_spec_TextNum_L1 fun j a => spec_TextNum_L1 n j a.1.1 a.1.2.1 a.1.2.2.1)]
def F_impl_within : Fn' (Int × (Int × (Int × Unit))) Bool := ⟨48, (Tvs.cons (Tv.one (Lf.int .i64)) (Tvs.cons (Tv.one (Lf.int .i64)) (Tvs.cons (Tv.one (Lf.int .i64)) Tvs.nil))), (Rt.v (Tv.one Lf.bool)), fun n a => impl_within n a.1 a.2.1 a.2.2.1⟩
def F_impl_NumText : Fn' (Int × Unit) ByteArray := ⟨18, (Tvs.cons (Tv.one (Lf.int .i64)) Tvs.nil), (Rt.v (Tv.one Lf.str)), fun n a => impl_NumText n a.1⟩
def S_impl_NumText_L1 := Sh.of (Sl.one (Lf.int .i64) (Sl.gap 2 (Sl.one Lf.str (Sl.gap 28 Sl.nil)))) Rw.nil Ls.nil
def T_impl_NumText (n : Nat) : Tab ByteArray := [([.b, .l, .r, .r, .r, .r], row1 S_impl_NumText_L1 fun j a => impl_NumText_L1 n j a.1.1 a.1.2.1)]
def F_impl_TextNum : Fn' (ByteArray × Unit) (Int × (Bool × Unit)) := ⟨43, (Tvs.cons (Tv.one Lf.str) Tvs.nil), (Rt.tup (Tvs.cons (Tv.one (Lf.int .i64)) (Tvs.cons (Tv.one Lf.bool) Tvs.nil))), fun n a => impl_TextNum n a.1⟩
def S_impl_TextNum_L1 := Sh.of (Sl.one Lf.str (Sl.gap 3 (Sl.one (Lf.int .i64) (Sl.one (Lf.int .i64) (Sl.one (Lf.int .i64) (Sl.gap 48 Sl.nil)))))) Rw.nil Ls.nil
def T_impl_TextNum (n : Nat) : Tab (Int × (Bool × Unit)) := [([.b, .r, .l, .r, .r, .r, .r, .r], row1 S_impl_TextNum_L1 fun j a => impl_TextNum_L1 n j a.1.1 a.1.2.1 a.1.2.2.1 a.1.2.2.2.1)]
def F_laws_FnExactTextNum : Fn' (ByteArray × Unit) Bool := ⟨13, (Tvs.cons (Tv.one Lf.str) Tvs.nil), (Rt.v (Tv.one Lf.bool)), fun n a => laws_FnExactTextNum n a.1⟩
def ents : List Ent := [entOf F_spec_l01Num, entOf F_spec_NumText, entOf F_spec_TextNum, entOf F_impl_within, entOf F_impl_NumText, entOf F_impl_TextNum, entOf F_laws_FnExactTextNum]
def callC (n : Nat) : CF := chain ents n
theorem eq_spec_l01Num (n : Nat) (a) : evalBodyU env (callC n) n F_spec_l01Num.g [] (F_spec_l01Num.args.to a) F_spec_l01Num.ret.un = F_spec_l01Num.run (n + 1) a := by kernel_rfl
theorem eq_spec_NumText (n : Nat) (a) : evalBodyU env (callC n) n F_spec_NumText.g [] (F_spec_NumText.args.to a) F_spec_NumText.ret.un = F_spec_NumText.run (n + 1) a := by kernel_rfl
theorem eq_spec_TextNum (n : Nat) (a) : evalBodyU env (callC n) n F_spec_TextNum.g (T_spec_TextNum n) (F_spec_TextNum.args.to a) F_spec_TextNum.ret.un = F_spec_TextNum.run (n + 1) a := by kernel_rfl
theorem tab_spec_TextNum (n : Nat) : TabOk env (callC n) n F_spec_TextNum.g (T_spec_TextNum n) F_spec_TextNum.ret.un := tabOk (List.forall_mem_cons.mpr ⟨row1_ok (fun _ => rfl) (fun _ _ => by kernel_rfl), List.forall_mem_nil _⟩)
theorem eq_impl_within (n : Nat) (a) : evalBodyU env (callC n) n F_impl_within.g [] (F_impl_within.args.to a) F_impl_within.ret.un = F_impl_within.run (n + 1) a := by kernel_rfl
theorem eq_impl_NumText (n : Nat) (a) : evalBodyU env (callC n) n F_impl_NumText.g (T_impl_NumText n) (F_impl_NumText.args.to a) F_impl_NumText.ret.un = F_impl_NumText.run (n + 1) a := by kernel_rfl
theorem tab_impl_NumText (n : Nat) : TabOk env (callC n) n F_impl_NumText.g (T_impl_NumText n) F_impl_NumText.ret.un := tabOk (List.forall_mem_cons.mpr ⟨row1_ok (fun _ => rfl) (fun _ _ => by kernel_rfl), List.forall_mem_nil _⟩)
theorem eq_impl_TextNum (n : Nat) (a) : evalBodyU env (callC n) n F_impl_TextNum.g (T_impl_TextNum n) (F_impl_TextNum.args.to a) F_impl_TextNum.ret.un = F_impl_TextNum.run (n + 1) a := by kernel_rfl
theorem tab_impl_TextNum (n : Nat) : TabOk env (callC n) n F_impl_TextNum.g (T_impl_TextNum n) F_impl_TextNum.ret.un := tabOk (List.forall_mem_cons.mpr ⟨row1_ok (fun _ => rfl) (fun _ _ => by kernel_rfl), List.forall_mem_nil _⟩)
theorem eq_laws_FnExactTextNum (n : Nat) (a) : evalBodyU env (callC n) n F_laws_FnExactTextNum.g [] (F_laws_FnExactTextNum.args.to a) F_laws_FnExactTextNum.ret.un = F_laws_FnExactTextNum.run (n + 1) a := by kernel_rfl
structure AllOk (n : Nat) : Prop where
  o_spec_l01Num : FnOk Try.prog F_spec_l01Num n
  o_spec_NumText : FnOk Try.prog F_spec_NumText n
  o_spec_TextNum : FnOk Try.prog F_spec_TextNum n
  o_impl_within : FnOk Try.prog F_impl_within n
  o_impl_NumText : FnOk Try.prog F_impl_NumText n
  o_impl_TextNum : FnOk Try.prog F_impl_TextNum n
  o_laws_FnExactTextNum : FnOk Try.prog F_laws_FnExactTextNum n
theorem calls_ok {n : Nat} (h : AllOk n) : CFok Try.prog (callC n) := chain_ok (by
  simp only [ents, List.forall_mem_cons, List.not_mem_nil, false_implies, implies_true, and_true]
  exact ⟨entOk_of h.o_spec_l01Num, entOk_of h.o_spec_NumText, entOk_of h.o_spec_TextNum, entOk_of h.o_impl_within, entOk_of h.o_impl_NumText, entOk_of h.o_impl_TextNum, entOk_of h.o_laws_FnExactTextNum⟩)
theorem calls_det (n : Nat) : CFdet (callC n) := chain_det (by
  simp only [ents, List.forall_mem_cons, List.not_mem_nil, false_implies, implies_true, and_true]
  exact ⟨entDet F_spec_l01Num, entDet F_spec_NumText, entDet F_spec_TextNum, entDet F_impl_within, entDet F_impl_NumText, entDet F_impl_TextNum, entDet F_laws_FnExactTextNum⟩)
theorem all_ok : ∀ n, AllOk n
  | 0 => ⟨fnOk_zero fun a => rfl, fnOk_zero fun a => rfl, fnOk_zero fun a => rfl, fnOk_zero fun a => rfl, fnOk_zero fun a => rfl, fnOk_zero fun a => rfl, fnOk_zero fun a => rfl⟩
  | n + 1 => ⟨fnOk_succ envOk eqsOk (calls_ok (all_ok n)) (calls_det n) tabOk_nil (eq_spec_l01Num n), fnOk_succ envOk eqsOk (calls_ok (all_ok n)) (calls_det n) tabOk_nil (eq_spec_NumText n), fnOk_succ envOk eqsOk (calls_ok (all_ok n)) (calls_det n) (tab_spec_TextNum n) (eq_spec_TextNum n), fnOk_succ envOk eqsOk (calls_ok (all_ok n)) (calls_det n) tabOk_nil (eq_impl_within n), fnOk_succ envOk eqsOk (calls_ok (all_ok n)) (calls_det n) (tab_impl_NumText n) (eq_impl_NumText n), fnOk_succ envOk eqsOk (calls_ok (all_ok n)) (calls_det n) (tab_impl_TextNum n) (eq_impl_TextNum n), fnOk_succ envOk eqsOk (calls_ok (all_ok n)) (calls_det n) tabOk_nil (eq_laws_FnExactTextNum n)⟩
end Go.Proofs.Ytiahfopdamngiaa.Ev

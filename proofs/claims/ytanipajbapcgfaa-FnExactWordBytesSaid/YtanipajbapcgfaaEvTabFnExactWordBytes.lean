/- The tables of the law FnExactWordBytes: what the evaluator makes of the program is these functions. -/
import Derived.Test.YtanipajbapcgfaaEvFnFnExactWordBytes
import Derived.Test.YtanipajbapcgfaaEvHead
import Derived.Test.YtanipajbapcgfaaEvEq
import Derived.Test.YtanipajbapcgfaaChecked
set_option linter.all false
namespace Go.Proofs.Ytanipajbapcgfaa.Ev
open Go Go.Proofs
def bytesT : List (Kd × Nat) := []
def bytesOf (f : Kd) : Nat := ((bytesT.find? fun p => decide (p.1 = f)).map (·.2)).getD 1
theorem bytes_pos (f : Kd) : 1 ≤ bytesOf f := by
  unfold bytesOf
  cases h : bytesT.find? fun p => decide (p.1 = f) with
  | none => exact Nat.le_refl _
  | some p =>
    have hp : ∀ q ∈ bytesT, 1 ≤ q.2 := by decide
    exact hp p (List.mem_of_find?_eq_some h)
noncomputable def env : Env := ⟨[(3, ⟨1, 0, false, [], (.int .i64)⟩),
  (4, ⟨1, 0, false, [], .bool⟩),
  (5, ⟨1, 0, false, [], (.int .u8)⟩),
  (9, ⟨1, 0, false, [], .str⟩),
  (27, ⟨1, 1, false, [], (.sl (.int .u8))⟩)],
  [(4, Try.f4), (20, Try.f20), (21, Try.f21), (22, Try.f22), (23, Try.f23), (24, Try.f24), (89, Try.f89), (90, Try.f90), (91, Try.f91), (130, Try.f130), (157, Try.f157)], [(23, ⟨[.io], true⟩), (91, ⟨[.give], true⟩), (157, ⟨[.give], true⟩)], [(22, [(4, ⟨35, []⟩)]), (23, [(2, ⟨35, []⟩)]), (24, [(2, ⟨35, []⟩)]), (89, [(2, ⟨9, []⟩)]), (90, [(2, ⟨9, []⟩)]), (157, [(2, ⟨131, []⟩)])], []⟩
theorem envOk : EnvOk Try.prog env := envOk_of (by kernel_rfl) (by
  simp only [env, List.forall_mem_cons, List.not_mem_nil, false_implies, implies_true, and_true]
  exact ⟨⟨Try.func4, by kernel_rfl⟩, ⟨Try.func20, by kernel_rfl⟩, ⟨Try.func21, by kernel_rfl⟩, ⟨Try.func22, by kernel_rfl⟩, ⟨Try.func23, by kernel_rfl⟩, ⟨Try.func24, by kernel_rfl⟩, ⟨Try.func89, by kernel_rfl⟩, ⟨Try.func90, by kernel_rfl⟩, ⟨Try.func91, by kernel_rfl⟩, ⟨Try.func130, by kernel_rfl⟩, ⟨Try.func157, by kernel_rfl⟩⟩) (by kernel_rfl)
theorem eqsOk : EqsOk Try.prog env := eqsOk_of (by kernel_rfl)
def F_spec_WordOk : Fn' (ByteArray × Unit) Bool := ⟨89, (Tvs.cons (Tv.one Lf.str) Tvs.nil), (Rt.v (Tv.one Lf.bool)), fun n a => spec_WordOk n a.1⟩
def S_spec_WordOk_L1 := Sh.of (Sl.one Lf.str (Sl.gap 2 (Sl.one (Lf.int .i64) (Sl.gap 24 Sl.nil)))) Rw.nil Ls.nil
def T_spec_WordOk (n : Nat) : Tab Bool := [([.b, .r, .l, .r], row1 S_spec_WordOk_L1 fun j a => spec_WordOk_L1 n j a.1.1 a.1.2.1)]
def F_spec_WordBytes : Fn' (ByteArray × Unit) ((List Int) × (Bool × Unit)) := ⟨20, (Tvs.cons (Tv.one Lf.str) Tvs.nil), (Rt.tup (Tvs.cons (Tv.one (Lf.od (.int .u8))) (Tvs.cons (Tv.one Lf.bool) Tvs.nil))), fun n a => spec_WordBytes n a.1⟩
def F_impl_within : Fn' (Int × (Int × (Int × Unit))) Bool := ⟨130, (Tvs.cons (Tv.one (Lf.int .i64)) (Tvs.cons (Tv.one (Lf.int .i64)) (Tvs.cons (Tv.one (Lf.int .i64)) Tvs.nil))), (Rt.v (Tv.one Lf.bool)), fun n a => impl_within n a.1 a.2.1 a.2.2.1⟩
def F_impl_WordOk : Fn' (ByteArray × Unit) Bool := ⟨90, (Tvs.cons (Tv.one Lf.str) Tvs.nil), (Rt.v (Tv.one Lf.bool)), fun n a => impl_WordOk n a.1⟩
def S_impl_WordOk_L1 := Sh.of (Sl.one Lf.str (Sl.gap 2 (Sl.one (Lf.int .i64) (Sl.gap 19 Sl.nil)))) Rw.nil Ls.nil
def T_impl_WordOk (n : Nat) : Tab Bool := [([.b, .r, .l, .r], row1 S_impl_WordOk_L1 fun j a => impl_WordOk_L1 n j a.1.1 a.1.2.1)]
def F_impl_num_o : Fn' ((List Int) × (Int × (Int × Unit))) (List Int) := ⟨157, (Tvs.cons (Tv.one (Lf.od (.int .u8))) (Tvs.cons (Tv.one (Lf.int .i64)) (Tvs.cons (Tv.one (Lf.int .i64)) Tvs.nil))), (Rt.v (Tv.one (Lf.od (.int .u8)))), fun n a => impl_num_o n a.1 a.2.1 a.2.2.1⟩
def S_impl_num_o_L1 := Sh.of (Sl.k (Kf.ow 40) (Sl.one (Lf.int .i64) (Sl.gap 5 (Sl.one (Lf.int .i64) (Sl.gap 15 Sl.nil))))) (Rw.data 40 (.int .u8) Rw.nil) Ls.nil
def T_impl_num_o (n : Nat) : Tab (List Int) := [([.b, .r, .l, .r], row1 S_impl_num_o_L1 fun j a => impl_num_o_L1 n j a.1.1 a.1.2.1 a.2.1)]
def F_impl_text_o : Fn' ((List Int) × (ByteArray × Unit)) (List Int) := ⟨91, (Tvs.cons (Tv.one (Lf.od (.int .u8))) (Tvs.cons (Tv.one Lf.str) Tvs.nil)), (Rt.v (Tv.one (Lf.od (.int .u8)))), fun n a => impl_text_o n a.1 a.2.1⟩
def F_impl_WordBytes : Fn' (ByteArray × Unit) ((List Int) × (Bool × Unit)) := ⟨21, (Tvs.cons (Tv.one Lf.str) Tvs.nil), (Rt.tup (Tvs.cons (Tv.one (Lf.od (.int .u8))) (Tvs.cons (Tv.one Lf.bool) Tvs.nil))), fun n a => impl_WordBytes n a.1⟩
def F_laws_eqByteS : Fn' ((List Int) × ((List Int) × Unit)) Bool := ⟨22, (Tvs.cons (Tv.one (Lf.sh (.int .u8))) (Tvs.cons (Tv.one (Lf.sh (.int .u8))) Tvs.nil)), (Rt.v (Tv.one Lf.bool)), fun n a => laws_eqByteS n a.1 a.2.1⟩
def S_laws_eqByteS_L1 := Sh.of (Sl.one (Lf.sh (.int .u8)) (Sl.one (Lf.sh (.int .u8)) (Sl.gap 3 (Sl.one (Lf.int .i64) (Sl.gap 20 Sl.nil))))) Rw.nil Ls.nil
def T_laws_eqByteS (n : Nat) : Tab Bool := [([.b, .r, .l, .r, .r], row1 S_laws_eqByteS_L1 fun j a => laws_eqByteS_L1 n j a.1.1 a.1.2.1 a.1.2.2.1)]
def F_laws_markByteS_o : Fn' ((List Int) × (Int × Unit)) (Int × ((List Int) × Unit)) := ⟨23, (Tvs.cons (Tv.one (Lf.od (.int .u8))) (Tvs.cons (Tv.one (Lf.int .i64)) Tvs.nil)), (Rt.tup (Tvs.cons (Tv.one (Lf.int .i64)) (Tvs.cons (Tv.one (Lf.od (.int .u8))) Tvs.nil))), fun n a => laws_markByteS_o n a.1 a.2.1⟩
def S_laws_markByteS_o_L1 := Sh.of (Sl.k (Kf.ow 40) (Sl.one (Lf.int .i64) (Sl.gap 3 (Sl.one (Lf.int .i64) (Sl.gap 14 Sl.nil))))) (Rw.data 40 (.int .u8) Rw.nil) (Ls.k (Kf.ow 40) Ls.nil)
def T_laws_markByteS_o (n : Nat) : Tab (Int × ((List Int) × Unit)) := [([.b, .r, .l, .r], row1 S_laws_markByteS_o_L1 fun j a => laws_markByteS_o_L1 n j a.1.1 a.1.2.1 a.2.1)]
def F_laws_heldByteS : Fn' ((List Int) × (Int × Unit)) Int := ⟨24, (Tvs.cons (Tv.one (Lf.sh (.int .u8))) (Tvs.cons (Tv.one (Lf.int .i64)) Tvs.nil)), (Rt.v (Tv.one (Lf.int .i64))), fun n a => laws_heldByteS n a.1 a.2.1⟩
def S_laws_heldByteS_L1 := Sh.of (Sl.one (Lf.sh (.int .u8)) (Sl.one (Lf.int .i64) (Sl.gap 3 (Sl.one (Lf.int .i64) (Sl.gap 16 Sl.nil))))) Rw.nil Ls.nil
def T_laws_heldByteS (n : Nat) : Tab Int := [([.b, .r, .l, .r], row1 S_laws_heldByteS_L1 fun j a => laws_heldByteS_L1 n j a.1.1 a.1.2.1 a.1.2.2.1)]
def F_laws_FnExactWordBytes : Fn' (ByteArray × Unit) Bool := ⟨4, (Tvs.cons (Tv.one Lf.str) Tvs.nil), (Rt.v (Tv.one Lf.bool)), fun n a => laws_FnExactWordBytes n a.1⟩
def ents : List Ent := [entOf F_spec_WordOk, entOf F_spec_WordBytes, entOf F_impl_within, entOf F_impl_WordOk, entOf F_impl_num_o, entOf F_impl_text_o, entOf F_impl_WordBytes, entOf F_laws_eqByteS, entOf F_laws_markByteS_o, entOf F_laws_heldByteS, entOf F_laws_FnExactWordBytes]
def callC (n : Nat) : CF := chain ents n
theorem eq_spec_WordOk (n : Nat) (a) : evalBodyU env (callC n) n F_spec_WordOk.g (T_spec_WordOk n) (F_spec_WordOk.args.to a) F_spec_WordOk.ret.un = F_spec_WordOk.run (n + 1) a := by kernel_rfl
theorem tab_spec_WordOk (n : Nat) : TabOk env (callC n) n F_spec_WordOk.g (T_spec_WordOk n) F_spec_WordOk.ret.un := tabOk (List.forall_mem_cons.mpr ⟨row1_ok (fun _ => rfl) (fun _ _ => by kernel_rfl), List.forall_mem_nil _⟩)
theorem eq_spec_WordBytes (n : Nat) (a) : evalBodyU env (callC n) n F_spec_WordBytes.g [] (F_spec_WordBytes.args.to a) F_spec_WordBytes.ret.un = F_spec_WordBytes.run (n + 1) a := by kernel_rfl
theorem eq_impl_within (n : Nat) (a) : evalBodyU env (callC n) n F_impl_within.g [] (F_impl_within.args.to a) F_impl_within.ret.un = F_impl_within.run (n + 1) a := by kernel_rfl
theorem eq_impl_WordOk (n : Nat) (a) : evalBodyU env (callC n) n F_impl_WordOk.g (T_impl_WordOk n) (F_impl_WordOk.args.to a) F_impl_WordOk.ret.un = F_impl_WordOk.run (n + 1) a := by kernel_rfl
theorem tab_impl_WordOk (n : Nat) : TabOk env (callC n) n F_impl_WordOk.g (T_impl_WordOk n) F_impl_WordOk.ret.un := tabOk (List.forall_mem_cons.mpr ⟨row1_ok (fun _ => rfl) (fun _ _ => by kernel_rfl), List.forall_mem_nil _⟩)
theorem eq_impl_num_o (n : Nat) (a) : evalBodyU env (callC n) n F_impl_num_o.g (T_impl_num_o n) (F_impl_num_o.args.to a) F_impl_num_o.ret.un = F_impl_num_o.run (n + 1) a := by kernel_rfl
theorem tab_impl_num_o (n : Nat) : TabOk env (callC n) n F_impl_num_o.g (T_impl_num_o n) F_impl_num_o.ret.un := tabOk (List.forall_mem_cons.mpr ⟨row1_ok (fun _ => rfl) (fun _ _ => by kernel_rfl), List.forall_mem_nil _⟩)
theorem eq_impl_text_o (n : Nat) (a) : evalBodyU env (callC n) n F_impl_text_o.g [] (F_impl_text_o.args.to a) F_impl_text_o.ret.un = F_impl_text_o.run (n + 1) a := by kernel_rfl
theorem eq_impl_WordBytes (n : Nat) (a) : evalBodyU env (callC n) n F_impl_WordBytes.g [] (F_impl_WordBytes.args.to a) F_impl_WordBytes.ret.un = F_impl_WordBytes.run (n + 1) a := by kernel_rfl
theorem eq_laws_eqByteS (n : Nat) (a) : evalBodyU env (callC n) n F_laws_eqByteS.g (T_laws_eqByteS n) (F_laws_eqByteS.args.to a) F_laws_eqByteS.ret.un = F_laws_eqByteS.run (n + 1) a := by kernel_rfl
theorem tab_laws_eqByteS (n : Nat) : TabOk env (callC n) n F_laws_eqByteS.g (T_laws_eqByteS n) F_laws_eqByteS.ret.un := tabOk (List.forall_mem_cons.mpr ⟨row1_ok (fun _ => rfl) (fun _ _ => by kernel_rfl), List.forall_mem_nil _⟩)
theorem eq_laws_markByteS_o (n : Nat) (a) : evalBodyU env (callC n) n F_laws_markByteS_o.g (T_laws_markByteS_o n) (F_laws_markByteS_o.args.to a) F_laws_markByteS_o.ret.un = F_laws_markByteS_o.run (n + 1) a := by kernel_rfl
theorem tab_laws_markByteS_o (n : Nat) : TabOk env (callC n) n F_laws_markByteS_o.g (T_laws_markByteS_o n) F_laws_markByteS_o.ret.un := tabOk (List.forall_mem_cons.mpr ⟨row1_ok (fun _ => rfl) (fun _ _ => by kernel_rfl), List.forall_mem_nil _⟩)
theorem eq_laws_heldByteS (n : Nat) (a) : evalBodyU env (callC n) n F_laws_heldByteS.g (T_laws_heldByteS n) (F_laws_heldByteS.args.to a) F_laws_heldByteS.ret.un = F_laws_heldByteS.run (n + 1) a := by kernel_rfl
theorem tab_laws_heldByteS (n : Nat) : TabOk env (callC n) n F_laws_heldByteS.g (T_laws_heldByteS n) F_laws_heldByteS.ret.un := tabOk (List.forall_mem_cons.mpr ⟨row1_ok (fun _ => rfl) (fun _ _ => by kernel_rfl), List.forall_mem_nil _⟩)
theorem eq_laws_FnExactWordBytes (n : Nat) (a) : evalBodyU env (callC n) n F_laws_FnExactWordBytes.g [] (F_laws_FnExactWordBytes.args.to a) F_laws_FnExactWordBytes.ret.un = F_laws_FnExactWordBytes.run (n + 1) a := by kernel_rfl
structure AllOk (n : Nat) : Prop where
  o_spec_WordOk : FnOk Try.prog env F_spec_WordOk n
  o_spec_WordBytes : FnOk Try.prog env F_spec_WordBytes n
  o_impl_within : FnOk Try.prog env F_impl_within n
  o_impl_WordOk : FnOk Try.prog env F_impl_WordOk n
  o_impl_num_o : FnOk Try.prog env F_impl_num_o n
  o_impl_text_o : FnOk Try.prog env F_impl_text_o n
  o_impl_WordBytes : FnOk Try.prog env F_impl_WordBytes n
  o_laws_eqByteS : FnOk Try.prog env F_laws_eqByteS n
  o_laws_markByteS_o : FnOk Try.prog env F_laws_markByteS_o n
  o_laws_heldByteS : FnOk Try.prog env F_laws_heldByteS n
  o_laws_FnExactWordBytes : FnOk Try.prog env F_laws_FnExactWordBytes n
theorem calls_ok {n : Nat} (h : AllOk n) : CFok Try.prog env (callC n) := chain_ok (by
  simp only [ents, List.forall_mem_cons, List.not_mem_nil, false_implies, implies_true, and_true]
  exact ⟨entOk_of h.o_spec_WordOk, entOk_of h.o_spec_WordBytes, entOk_of h.o_impl_within, entOk_of h.o_impl_WordOk, entOk_of h.o_impl_num_o, entOk_of h.o_impl_text_o, entOk_of h.o_impl_WordBytes, entOk_of h.o_laws_eqByteS, entOk_of h.o_laws_markByteS_o, entOk_of h.o_laws_heldByteS, entOk_of h.o_laws_FnExactWordBytes⟩)
theorem calls_det (n : Nat) : CFdet (callC n) := chain_det (by
  simp only [ents, List.forall_mem_cons, List.not_mem_nil, false_implies, implies_true, and_true]
  exact ⟨entDet F_spec_WordOk, entDet F_spec_WordBytes, entDet F_impl_within, entDet F_impl_WordOk, entDet F_impl_num_o, entDet F_impl_text_o, entDet F_impl_WordBytes, entDet F_laws_eqByteS, entDet F_laws_markByteS_o, entDet F_laws_heldByteS, entDet F_laws_FnExactWordBytes⟩)
theorem all_ok : ∀ n, AllOk n
  | 0 => ⟨fnOk_zero fun a => rfl, fnOk_zero fun a => rfl, fnOk_zero fun a => rfl, fnOk_zero fun a => rfl, fnOk_zero fun a => rfl, fnOk_zero fun a => rfl, fnOk_zero fun a => rfl, fnOk_zero fun a => rfl, fnOk_zero fun a => rfl, fnOk_zero fun a => rfl, fnOk_zero fun a => rfl⟩
  | n + 1 => ⟨fnOk_succ envOk eqsOk (calls_ok (all_ok n)) (calls_det n) (tab_spec_WordOk n) (eq_spec_WordOk n), fnOk_succ envOk eqsOk (calls_ok (all_ok n)) (calls_det n) tabOk_nil (eq_spec_WordBytes n), fnOk_succ envOk eqsOk (calls_ok (all_ok n)) (calls_det n) tabOk_nil (eq_impl_within n), fnOk_succ envOk eqsOk (calls_ok (all_ok n)) (calls_det n) (tab_impl_WordOk n) (eq_impl_WordOk n), fnOk_succ envOk eqsOk (calls_ok (all_ok n)) (calls_det n) (tab_impl_num_o n) (eq_impl_num_o n), fnOk_succ envOk eqsOk (calls_ok (all_ok n)) (calls_det n) tabOk_nil (eq_impl_text_o n), fnOk_succ envOk eqsOk (calls_ok (all_ok n)) (calls_det n) tabOk_nil (eq_impl_WordBytes n), fnOk_succ envOk eqsOk (calls_ok (all_ok n)) (calls_det n) (tab_laws_eqByteS n) (eq_laws_eqByteS n), fnOk_succ envOk eqsOk (calls_ok (all_ok n)) (calls_det n) (tab_laws_markByteS_o n) (eq_laws_markByteS_o n), fnOk_succ envOk eqsOk (calls_ok (all_ok n)) (calls_det n) (tab_laws_heldByteS n) (eq_laws_heldByteS n), fnOk_succ envOk eqsOk (calls_ok (all_ok n)) (calls_det n) tabOk_nil (eq_laws_FnExactWordBytes n)⟩
end Go.Proofs.Ytanipajbapcgfaa.Ev

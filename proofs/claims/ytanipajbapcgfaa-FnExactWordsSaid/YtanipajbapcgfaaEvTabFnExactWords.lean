/- The tables of the law FnExactWords: what the evaluator makes of the program is these functions. -/
import Derived.Test.YtanipajbapcgfaaEvFnFnExactWords
import Derived.Test.YtanipajbapcgfaaEvHead
import Derived.Test.YtanipajbapcgfaaEvEq
import Derived.Test.YtanipajbapcgfaaChecked
set_option linter.all false
namespace Go.Proofs.Ytanipajbapcgfaa.Ev
open Go Go.Proofs
def bytesT : List (Kd × Nat) := []
def bytesOf (f : Kd) : Nat := ((bytesT.find? fun p => decide (p.1 = f)).map (·.2)).getD 1
theorem bytes_pos (f : Kd) : 1 ≤ bytesOf f := by
  unfold bytesOf
  cases h : bytesT.find? fun p => decide (p.1 = f) with
  | none => exact Nat.le_refl _
  | some p =>
    have hp : ∀ q ∈ bytesT, 1 ≤ q.2 := by decide
    exact hp p (List.mem_of_find?_eq_some h)
noncomputable def env : Env := ⟨[(3, ⟨1, 0, false, [], (.int .i64)⟩),
  (4, ⟨1, 0, false, [], .bool⟩),
  (5, ⟨1, 0, false, [], (.int .u8)⟩),
  (9, ⟨1, 0, false, [], .str⟩),
  (22, ⟨1, 16, false, [], (.sl .str)⟩),
  (27, ⟨1, 1, false, [], (.sl (.int .u8))⟩)],
  [(3, Try.f3), (15, Try.f15), (16, Try.f16), (17, Try.f17), (18, Try.f18), (19, Try.f19), (86, Try.f86), (87, Try.f87), (88, Try.f88)], [(18, ⟨[.io], true⟩)], [(17, [(4, ⟨35, []⟩)]), (18, [(2, ⟨35, []⟩)]), (19, [(2, ⟨35, []⟩)]), (86, [(4, ⟨227, []⟩)]), (87, [(4, ⟨227, []⟩)]), (88, [(4, ⟨9, []⟩)])], []⟩
theorem envOk : EnvOk Try.prog env := envOk_of (by kernel_rfl) (by
  simp only [env, List.forall_mem_cons, List.not_mem_nil, false_implies, implies_true, and_true]
  exact ⟨⟨Try.func3, by kernel_rfl⟩, ⟨Try.func15, by kernel_rfl⟩, ⟨Try.func16, by kernel_rfl⟩, ⟨Try.func17, by kernel_rfl⟩, ⟨Try.func18, by kernel_rfl⟩, ⟨Try.func19, by kernel_rfl⟩, ⟨Try.func86, by kernel_rfl⟩, ⟨Try.func87, by kernel_rfl⟩, ⟨Try.func88, by kernel_rfl⟩⟩) (by kernel_rfl)
theorem eqsOk : EqsOk Try.prog env := eqsOk_of (by kernel_rfl)
def F_spec_l05Parts : Fn' (ByteArray × (Int × Unit)) (List ByteArray) := ⟨86, (Tvs.cons (Tv.one Lf.str) (Tvs.cons (Tv.one (Lf.int .u8)) Tvs.nil)), (Rt.v (Tv.one (Lf.od .str))), fun n a => spec_l05Parts n a.1 a.2.1⟩
def S_spec_l05Parts_L1 := Sh.of (Sl.one Lf.str (Sl.one (Lf.int .u8) (Sl.gap 3 (Sl.k (Kf.ow 360) (Sl.one (Lf.int .i64) (Sl.one (Lf.int .i64) (Sl.gap 27 Sl.nil))))))) (Rw.data 360 .str Rw.nil) Ls.nil
def T_spec_l05Parts (n : Nat) : Tab (List ByteArray) := [([.b, .r, .l, .r, .r, .r], row1 S_spec_l05Parts_L1 fun j a => spec_l05Parts_L1 n j a.1.1 a.1.2.1 a.1.2.2.1 a.1.2.2.2.1 a.2.1)]
def F_spec_Words : Fn' (ByteArray × Unit) (List ByteArray) := ⟨15, (Tvs.cons (Tv.one Lf.str) Tvs.nil), (Rt.v (Tv.one (Lf.od .str))), fun n a => spec_Words n a.1⟩
def F_impl_cut : Fn' (ByteArray × (Int × Unit)) (List ByteArray) := ⟨87, (Tvs.cons (Tv.one Lf.str) (Tvs.cons (Tv.one (Lf.int .u8)) Tvs.nil)), (Rt.v (Tv.one (Lf.od .str))), fun n a => impl_cut n a.1 a.2.1⟩
def S_impl_cut_L1 := Sh.of (Sl.one Lf.str (Sl.one (Lf.int .u8) (Sl.gap 3 (Sl.k (Kf.ow 360) (Sl.one (Lf.int .i64) (Sl.one (Lf.int .i64) (Sl.gap 27 Sl.nil))))))) (Rw.data 360 .str Rw.nil) Ls.nil
def T_impl_cut (n : Nat) : Tab (List ByteArray) := [([.b, .r, .l, .r, .r, .r], row1 S_impl_cut_L1 fun j a => impl_cut_L1 n j a.1.1 a.1.2.1 a.1.2.2.1 a.1.2.2.2.1 a.2.1)]
def F_impl_Words : Fn' (ByteArray × Unit) (List ByteArray) := ⟨16, (Tvs.cons (Tv.one Lf.str) Tvs.nil), (Rt.v (Tv.one (Lf.od .str))), fun n a => impl_Words n a.1⟩
def F_laws_eqStringS : Fn' ((List ByteArray) × ((List ByteArray) × Unit)) Bool := ⟨17, (Tvs.cons (Tv.one (Lf.sh .str)) (Tvs.cons (Tv.one (Lf.sh .str)) Tvs.nil)), (Rt.v (Tv.one Lf.bool)), fun n a => laws_eqStringS n a.1 a.2.1⟩
def S_laws_eqStringS_L1 := Sh.of (Sl.one (Lf.sh .str) (Sl.one (Lf.sh .str) (Sl.gap 3 (Sl.one (Lf.int .i64) (Sl.gap 20 Sl.nil))))) Rw.nil Ls.nil
def T_laws_eqStringS (n : Nat) : Tab Bool := [([.b, .r, .l, .r, .r], row1 S_laws_eqStringS_L1 fun j a => laws_eqStringS_L1 n j a.1.1 a.1.2.1 a.1.2.2.1)]
def F_laws_markText : Fn' (Int × Unit) ByteArray := ⟨88, (Tvs.cons (Tv.one (Lf.int .i64)) Tvs.nil), (Rt.v (Tv.one Lf.str)), fun n a => laws_markText n a.1⟩
def S_laws_markText_L1 := Sh.of (Sl.one (Lf.int .i64) (Sl.gap 2 (Sl.one Lf.str (Sl.gap 16 Sl.nil)))) Rw.nil Ls.nil
def T_laws_markText (n : Nat) : Tab ByteArray := [([.b, .l, .r, .r, .r], row1 S_laws_markText_L1 fun j a => laws_markText_L1 n j a.1.1 a.1.2.1)]
def F_laws_markStringS_o : Fn' ((List ByteArray) × (Int × Unit)) (Int × ((List ByteArray) × Unit)) := ⟨18, (Tvs.cons (Tv.one (Lf.od .str)) (Tvs.cons (Tv.one (Lf.int .i64)) Tvs.nil)), (Rt.tup (Tvs.cons (Tv.one (Lf.int .i64)) (Tvs.cons (Tv.one (Lf.od .str)) Tvs.nil))), fun n a => laws_markStringS_o n a.1 a.2.1⟩
def S_laws_markStringS_o_L1 := Sh.of (Sl.k (Kf.ow 40) (Sl.one (Lf.int .i64) (Sl.gap 3 (Sl.one (Lf.int .i64) (Sl.gap 14 Sl.nil))))) (Rw.data 40 .str Rw.nil) (Ls.k (Kf.ow 40) Ls.nil)
def T_laws_markStringS_o (n : Nat) : Tab (Int × ((List ByteArray) × Unit)) := [([.b, .r, .l, .r], row1 S_laws_markStringS_o_L1 fun j a => laws_markStringS_o_L1 n j a.1.1 a.1.2.1 a.2.1)]
def F_laws_heldStringS : Fn' ((List ByteArray) × (Int × Unit)) Int := ⟨19, (Tvs.cons (Tv.one (Lf.sh .str)) (Tvs.cons (Tv.one (Lf.int .i64)) Tvs.nil)), (Rt.v (Tv.one (Lf.int .i64))), fun n a => laws_heldStringS n a.1 a.2.1⟩
def S_laws_heldStringS_L1 := Sh.of (Sl.one (Lf.sh .str) (Sl.one (Lf.int .i64) (Sl.gap 3 (Sl.one (Lf.int .i64) (Sl.gap 16 Sl.nil))))) Rw.nil Ls.nil
def T_laws_heldStringS (n : Nat) : Tab Int := [([.b, .r, .l, .r], row1 S_laws_heldStringS_L1 fun j a => laws_heldStringS_L1 n j a.1.1 a.1.2.1 a.1.2.2.1)]
def F_laws_FnExactWords : Fn' (ByteArray × Unit) Bool := ⟨3, (Tvs.cons (Tv.one Lf.str) Tvs.nil), (Rt.v (Tv.one Lf.bool)), fun n a => laws_FnExactWords n a.1⟩
def ents : List Ent := [entOf F_spec_l05Parts, entOf F_spec_Words, entOf F_impl_cut, entOf F_impl_Words, entOf F_laws_eqStringS, entOf F_laws_markText, entOf F_laws_markStringS_o, entOf F_laws_heldStringS, entOf F_laws_FnExactWords]
def callC (n : Nat) : CF := chain ents n
theorem eq_spec_l05Parts (n : Nat) (a) : evalBodyU env (callC n) n F_spec_l05Parts.g (T_spec_l05Parts n) (F_spec_l05Parts.args.to a) F_spec_l05Parts.ret.un = F_spec_l05Parts.run (n + 1) a := by kernel_rfl
theorem tab_spec_l05Parts (n : Nat) : TabOk env (callC n) n F_spec_l05Parts.g (T_spec_l05Parts n) F_spec_l05Parts.ret.un := tabOk (List.forall_mem_cons.mpr ⟨row1_ok (fun _ => rfl) (fun _ _ => by kernel_rfl), List.forall_mem_nil _⟩)
theorem eq_spec_Words (n : Nat) (a) : evalBodyU env (callC n) n F_spec_Words.g [] (F_spec_Words.args.to a) F_spec_Words.ret.un = F_spec_Words.run (n + 1) a := by kernel_rfl
theorem eq_impl_cut (n : Nat) (a) : evalBodyU env (callC n) n F_impl_cut.g (T_impl_cut n) (F_impl_cut.args.to a) F_impl_cut.ret.un = F_impl_cut.run (n + 1) a := by kernel_rfl
theorem tab_impl_cut (n : Nat) : TabOk env (callC n) n F_impl_cut.g (T_impl_cut n) F_impl_cut.ret.un := tabOk (List.forall_mem_cons.mpr ⟨row1_ok (fun _ => rfl) (fun _ _ => by kernel_rfl), List.forall_mem_nil _⟩)
theorem eq_impl_Words (n : Nat) (a) : evalBodyU env (callC n) n F_impl_Words.g [] (F_impl_Words.args.to a) F_impl_Words.ret.un = F_impl_Words.run (n + 1) a := by kernel_rfl
theorem eq_laws_eqStringS (n : Nat) (a) : evalBodyU env (callC n) n F_laws_eqStringS.g (T_laws_eqStringS n) (F_laws_eqStringS.args.to a) F_laws_eqStringS.ret.un = F_laws_eqStringS.run (n + 1) a := by kernel_rfl
theorem tab_laws_eqStringS (n : Nat) : TabOk env (callC n) n F_laws_eqStringS.g (T_laws_eqStringS n) F_laws_eqStringS.ret.un := tabOk (List.forall_mem_cons.mpr ⟨row1_ok (fun _ => rfl) (fun _ _ => by kernel_rfl), List.forall_mem_nil _⟩)
theorem eq_laws_markText (n : Nat) (a) : evalBodyU env (callC n) n F_laws_markText.g (T_laws_markText n) (F_laws_markText.args.to a) F_laws_markText.ret.un = F_laws_markText.run (n + 1) a := by kernel_rfl
theorem tab_laws_markText (n : Nat) : TabOk env (callC n) n F_laws_markText.g (T_laws_markText n) F_laws_markText.ret.un := tabOk (List.forall_mem_cons.mpr ⟨row1_ok (fun _ => rfl) (fun _ _ => by kernel_rfl), List.forall_mem_nil _⟩)
theorem eq_laws_markStringS_o (n : Nat) (a) : evalBodyU env (callC n) n F_laws_markStringS_o.g (T_laws_markStringS_o n) (F_laws_markStringS_o.args.to a) F_laws_markStringS_o.ret.un = F_laws_markStringS_o.run (n + 1) a := by kernel_rfl
theorem tab_laws_markStringS_o (n : Nat) : TabOk env (callC n) n F_laws_markStringS_o.g (T_laws_markStringS_o n) F_laws_markStringS_o.ret.un := tabOk (List.forall_mem_cons.mpr ⟨row1_ok (fun _ => rfl) (fun _ _ => by kernel_rfl), List.forall_mem_nil _⟩)
theorem eq_laws_heldStringS (n : Nat) (a) : evalBodyU env (callC n) n F_laws_heldStringS.g (T_laws_heldStringS n) (F_laws_heldStringS.args.to a) F_laws_heldStringS.ret.un = F_laws_heldStringS.run (n + 1) a := by kernel_rfl
theorem tab_laws_heldStringS (n : Nat) : TabOk env (callC n) n F_laws_heldStringS.g (T_laws_heldStringS n) F_laws_heldStringS.ret.un := tabOk (List.forall_mem_cons.mpr ⟨row1_ok (fun _ => rfl) (fun _ _ => by kernel_rfl), List.forall_mem_nil _⟩)
theorem eq_laws_FnExactWords (n : Nat) (a) : evalBodyU env (callC n) n F_laws_FnExactWords.g [] (F_laws_FnExactWords.args.to a) F_laws_FnExactWords.ret.un = F_laws_FnExactWords.run (n + 1) a := by kernel_rfl
structure AllOk (n : Nat) : Prop where
  o_spec_l05Parts : FnOk Try.prog env F_spec_l05Parts n
  o_spec_Words : FnOk Try.prog env F_spec_Words n
  o_impl_cut : FnOk Try.prog env F_impl_cut n
  o_impl_Words : FnOk Try.prog env F_impl_Words n
  o_laws_eqStringS : FnOk Try.prog env F_laws_eqStringS n
  o_laws_markText : FnOk Try.prog env F_laws_markText n
  o_laws_markStringS_o : FnOk Try.prog env F_laws_markStringS_o n
  o_laws_heldStringS : FnOk Try.prog env F_laws_heldStringS n
  o_laws_FnExactWords : FnOk Try.prog env F_laws_FnExactWords n
theorem calls_ok {n : Nat} (h : AllOk n) : CFok Try.prog env (callC n) := chain_ok (by
  simp only [ents, List.forall_mem_cons, List.not_mem_nil, false_implies, implies_true, and_true]
  exact ⟨entOk_of h.o_spec_l05Parts, entOk_of h.o_spec_Words, entOk_of h.o_impl_cut, entOk_of h.o_impl_Words, entOk_of h.o_laws_eqStringS, entOk_of h.o_laws_markText, entOk_of h.o_laws_markStringS_o, entOk_of h.o_laws_heldStringS, entOk_of h.o_laws_FnExactWords⟩)
theorem calls_det (n : Nat) : CFdet (callC n) := chain_det (by
  simp only [ents, List.forall_mem_cons, List.not_mem_nil, false_implies, implies_true, and_true]
  exact ⟨entDet F_spec_l05Parts, entDet F_spec_Words, entDet F_impl_cut, entDet F_impl_Words, entDet F_laws_eqStringS, entDet F_laws_markText, entDet F_laws_markStringS_o, entDet F_laws_heldStringS, entDet F_laws_FnExactWords⟩)
theorem all_ok : ∀ n, AllOk n
  | 0 => ⟨fnOk_zero fun a => rfl, fnOk_zero fun a => rfl, fnOk_zero fun a => rfl, fnOk_zero fun a => rfl, fnOk_zero fun a => rfl, fnOk_zero fun a => rfl, fnOk_zero fun a => rfl, fnOk_zero fun a => rfl, fnOk_zero fun a => rfl⟩
  | n + 1 => ⟨fnOk_succ envOk eqsOk (calls_ok (all_ok n)) (calls_det n) (tab_spec_l05Parts n) (eq_spec_l05Parts n), fnOk_succ envOk eqsOk (calls_ok (all_ok n)) (calls_det n) tabOk_nil (eq_spec_Words n), fnOk_succ envOk eqsOk (calls_ok (all_ok n)) (calls_det n) (tab_impl_cut n) (eq_impl_cut n), fnOk_succ envOk eqsOk (calls_ok (all_ok n)) (calls_det n) tabOk_nil (eq_impl_Words n), fnOk_succ envOk eqsOk (calls_ok (all_ok n)) (calls_det n) (tab_laws_eqStringS n) (eq_laws_eqStringS n), fnOk_succ envOk eqsOk (calls_ok (all_ok n)) (calls_det n) (tab_laws_markText n) (eq_laws_markText n), fnOk_succ envOk eqsOk (calls_ok (all_ok n)) (calls_det n) (tab_laws_markStringS_o n) (eq_laws_markStringS_o n), fnOk_succ envOk eqsOk (calls_ok (all_ok n)) (calls_det n) (tab_laws_heldStringS n) (eq_laws_heldStringS n), fnOk_succ envOk eqsOk (calls_ok (all_ok n)) (calls_det n) tabOk_nil (eq_laws_FnExactWords n)⟩
end Go.Proofs.Ytanipajbapcgfaa.Ev

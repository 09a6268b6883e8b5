/- The tables of the law FnNums: what the evaluator makes of the program is these functions. -/
import Derived.Test.YtanipajbapcgfaaEvFnFnNums
import Derived.Test.YtanipajbapcgfaaEvHead
import Derived.Test.YtanipajbapcgfaaEvEq
import Derived.Test.YtanipajbapcgfaaChecked
set_option linter.all false
namespace Go.Proofs.Ytanipajbapcgfaa.Ev
open Go Go.Proofs
def bytesT : List (Kd × Nat) := [((.int .u8), 1)]
def bytesOf (f : Kd) : Nat := ((bytesT.find? fun p => decide (p.1 = f)).map (·.2)).getD 1
theorem bytes_pos (f : Kd) : 1 ≤ bytesOf f := by
  unfold bytesOf
  cases h : bytesT.find? fun p => decide (p.1 = f) with
  | none => exact Nat.le_refl _
  | some p =>
    have hp : ∀ q ∈ bytesT, 1 ≤ q.2 := by decide
    exact hp p (List.mem_of_find?_eq_some h)
noncomputable def env : Env := ⟨[(3, ⟨1, 0, false, [], (.int .i64)⟩),
  (4, ⟨1, 0, false, [], .bool⟩),
  (5, ⟨1, 0, false, [], (.int .u8)⟩),
  (9, ⟨1, 0, false, [], .str⟩),
  (27, ⟨1, 1, false, [], (.sl (.int .u8))⟩),
  (191, ⟨3, 0, true, [(0, 1), (1, 1), (2, 1)], (.pair (.sl (.int .u8)) (.pair (.int .i64) (.int .i64)))⟩)],
  [(10, Try.f10), (62, Try.f62), (63, Try.f63), (64, Try.f64), (65, Try.f65), (66, Try.f66), (67, Try.f67), (125, Try.f125), (126, Try.f126), (127, Try.f127), (128, Try.f128), (129, Try.f129), (130, Try.f130), (173, Try.f173)], [(125, ⟨[], true, some ((.pair (.sl (.int .u8)) (.pair (.int .i64) (.int .i64))))⟩), (126, ⟨[.bx ((.pair (.sl (.int .u8)) (.pair (.int .i64) (.int .i64))))], true, none⟩), (127, ⟨[.bx ((.pair (.sl (.int .u8)) (.pair (.int .i64) (.int .i64))))], true, none⟩), (128, ⟨[.bx ((.pair (.sl (.int .u8)) (.pair (.int .i64) (.int .i64))))], true, none⟩), (173, ⟨[.bx ((.pair (.sl (.int .u8)) (.pair (.int .i64) (.int .i64))))], true, none⟩)], [(63, [(5, ⟨770, []⟩)]), (64, [(5, ⟨770, []⟩)]), (65, [(5, ⟨120259084544, []⟩)]), (66, [(6, ⟨9, []⟩)]), (67, [(8, ⟨113, []⟩)]), (125, [(3, ⟨25, []⟩)]), (126, [(3, ⟨97, []⟩)]), (129, [(3, ⟨25, []⟩)])], []⟩
theorem envOk : EnvOk Try.prog env := envOk_of (by kernel_rfl) (by
  simp only [env, List.forall_mem_cons, List.not_mem_nil, false_implies, implies_true, and_true]
  exact ⟨⟨Try.func10, by kernel_rfl⟩, ⟨Try.func62, by kernel_rfl⟩, ⟨Try.func63, by kernel_rfl⟩, ⟨Try.func64, by kernel_rfl⟩, ⟨Try.func65, by kernel_rfl⟩, ⟨Try.func66, by kernel_rfl⟩, ⟨Try.func67, by kernel_rfl⟩, ⟨Try.func125, by kernel_rfl⟩, ⟨Try.func126, by kernel_rfl⟩, ⟨Try.func127, by kernel_rfl⟩, ⟨Try.func128, by kernel_rfl⟩, ⟨Try.func129, by kernel_rfl⟩, ⟨Try.func130, by kernel_rfl⟩, ⟨Try.func173, by kernel_rfl⟩⟩) (by kernel_rfl)
theorem eqsOk : EqsOk Try.prog env := eqsOk_of (by kernel_rfl)
def F_spec_l01New : Fn' ((List Int) × Unit) (((List Int) × (Int × Int)) × Unit) := ⟨125, (Tvs.cons (Tv.one (Lf.sh (.int .u8))) Tvs.nil), (Rt.tup (Tvs.cons (Tv.agg (Ls.cons (Lf.sh (.int .u8)) (Ls.cons (Lf.int .i64) (Ls.one (Lf.int .i64))))) Tvs.nil)), fun n a => spec_l01New n a.1⟩
def S_spec_l01New_L1 := Sh.of (Sl.one (Lf.sh (.int .u8)) (Sl.gap 2 (Sl.one (Lf.int .i64) (Sl.one (Lf.int .i64) (Sl.gap 27 Sl.nil))))) Rw.nil Ls.nil
def T_spec_l01New (n : Nat) : Tab (((List Int) × (Int × Int)) × Unit) := [([.b, .r, .l, .r, .r], row1 S_spec_l01New_L1 fun j a => spec_l01New_L1 n j a.1.1 a.1.2.1 a.1.2.2.1)]
def F_spec_l01Byte : Fn' (((List Int) × (Int × Int)) × Unit) (Int × (((List Int) × (Int × Int)) × Unit)) := ⟨173, (Tvs.cons (Tv.agg (Ls.cons (Lf.sh (.int .u8)) (Ls.cons (Lf.int .i64) (Ls.one (Lf.int .i64))))) Tvs.nil), (Rt.tup (Tvs.cons (Tv.one (Lf.int .i64)) (Tvs.cons (Tv.agg (Ls.cons (Lf.sh (.int .u8)) (Ls.cons (Lf.int .i64) (Ls.one (Lf.int .i64))))) Tvs.nil))), fun n a => spec_l01Byte n a.1.1 a.1.2.1 a.1.2.2⟩
def F_spec_l01Below : Fn' (((List Int) × (Int × Int)) × (Int × Unit)) (Int × (((List Int) × (Int × Int)) × Unit)) := ⟨128, (Tvs.cons (Tv.agg (Ls.cons (Lf.sh (.int .u8)) (Ls.cons (Lf.int .i64) (Ls.one (Lf.int .i64))))) (Tvs.cons (Tv.one (Lf.int .i64)) Tvs.nil)), (Rt.tup (Tvs.cons (Tv.one (Lf.int .i64)) (Tvs.cons (Tv.agg (Ls.cons (Lf.sh (.int .u8)) (Ls.cons (Lf.int .i64) (Ls.one (Lf.int .i64))))) Tvs.nil))), fun n a => spec_l01Below n a.1.1 a.1.2.1 a.1.2.2 a.2.1⟩
def F_spec_l06Bytes : Fn' (((List Int) × (Int × Int)) × (Int × Unit)) ((List Int) × (((List Int) × (Int × Int)) × Unit)) := ⟨126, (Tvs.cons (Tv.agg (Ls.cons (Lf.sh (.int .u8)) (Ls.cons (Lf.int .i64) (Ls.one (Lf.int .i64))))) (Tvs.cons (Tv.one (Lf.int .i64)) Tvs.nil)), (Rt.tup (Tvs.cons (Tv.one (Lf.od (.int .u8))) (Tvs.cons (Tv.agg (Ls.cons (Lf.sh (.int .u8)) (Ls.cons (Lf.int .i64) (Ls.one (Lf.int .i64))))) Tvs.nil))), fun n a => spec_l06Bytes n a.1.1 a.1.2.1 a.1.2.2 a.2.1⟩
def S_spec_l06Bytes_L1 := Sh.of (Sl.k (Kf.box 40 0) (Sl.gap 4 (Sl.k (Kf.ow 360) (Sl.one (Lf.int .i64) (Sl.gap 16 Sl.nil))))) (Rw.box 40 (.pair (.sl (.int .u8)) (.pair (.int .i64) (.int .i64))) (Ls.cons (Lf.sh (.int .u8)) (Ls.cons (Lf.int .i64) (Ls.cons (Lf.int .i64) Ls.nil))) (Rw.data 360 (.int .u8) Rw.nil)) (Ls.k (Kf.box 40 0) Ls.nil)
def T_spec_l06Bytes (n : Nat) : Tab ((List Int) × (((List Int) × (Int × Int)) × Unit)) := [([.b, .r, .l, .r, .r], row1 S_spec_l06Bytes_L1 fun j a => spec_l06Bytes_L1 n j a.1.1 a.2.1.1 a.2.1.2.1 a.2.1.2.2.1 a.2.2.1)]
def F_spec_l01Raw : Fn' (((List Int) × (Int × Int)) × Unit) (Int × (((List Int) × (Int × Int)) × Unit)) := ⟨127, (Tvs.cons (Tv.agg (Ls.cons (Lf.sh (.int .u8)) (Ls.cons (Lf.int .i64) (Ls.one (Lf.int .i64))))) Tvs.nil), (Rt.tup (Tvs.cons (Tv.one (Lf.int .i64)) (Tvs.cons (Tv.agg (Ls.cons (Lf.sh (.int .u8)) (Ls.cons (Lf.int .i64) (Ls.one (Lf.int .i64))))) Tvs.nil))), fun n a => spec_l01Raw n a.1.1 a.1.2.1 a.1.2.2⟩
def F_spec_l06Pow : Fn' (Int × Unit) Int := ⟨129, (Tvs.cons (Tv.one (Lf.int .i64)) Tvs.nil), (Rt.v (Tv.one (Lf.int .i64))), fun n a => spec_l06Pow n a.1⟩
def S_spec_l06Pow_L1 := Sh.of (Sl.one (Lf.int .i64) (Sl.gap 2 (Sl.one (Lf.int .i64) (Sl.one (Lf.int .i64) (Sl.gap 8 Sl.nil))))) Rw.nil Ls.nil
def T_spec_l06Pow (n : Nat) : Tab Int := [([.b, .r, .l, .r, .r], row1 S_spec_l06Pow_L1 fun j a => spec_l06Pow_L1 n j a.1.1 a.1.2.1 a.1.2.2.1)]
def F_spec_DrawPutNum : Fn' ((List Int) × Unit) ((List Int) × (Int × (Int × Unit))) := ⟨62, (Tvs.cons (Tv.one (Lf.sh (.int .u8))) Tvs.nil), (Rt.tup (Tvs.cons (Tv.one (Lf.od (.int .u8))) (Tvs.cons (Tv.one (Lf.int .i64)) (Tvs.cons (Tv.one (Lf.int .i64)) Tvs.nil)))), fun n a => spec_DrawPutNum n a.1⟩
def F_impl_within : Fn' (Int × (Int × (Int × Unit))) Bool := ⟨130, (Tvs.cons (Tv.one (Lf.int .i64)) (Tvs.cons (Tv.one (Lf.int .i64)) (Tvs.cons (Tv.one (Lf.int .i64)) Tvs.nil))), (Rt.v (Tv.one Lf.bool)), fun n a => impl_within n a.1 a.2.1 a.2.2.1⟩
def F_impl_PutNum : Fn' ((List Int) × (Int × (Int × Unit))) ((List Int) × (Bool × Unit)) := ⟨63, (Tvs.cons (Tv.one (Lf.sh (.int .u8))) (Tvs.cons (Tv.one (Lf.int .i64)) (Tvs.cons (Tv.one (Lf.int .i64)) Tvs.nil))), (Rt.tup (Tvs.cons (Tv.one (Lf.od (.int .u8))) (Tvs.cons (Tv.one Lf.bool) Tvs.nil))), fun n a => impl_PutNum n a.1 a.2.1 a.2.2.1⟩
def S_impl_PutNum_L1 := Sh.of (Sl.gap 1 (Sl.one (Lf.int .i64) (Sl.gap 6 (Sl.k (Kf.ow 552) (Sl.one (Lf.int .i64) (Sl.gap 30 Sl.nil)))))) (Rw.data 552 (.int .u8) Rw.nil) Ls.nil
def T_impl_PutNum (n : Nat) : Tab ((List Int) × (Bool × Unit)) := [([.b, .r, .l, .r, .r, .r], row1 S_impl_PutNum_L1 fun j a => impl_PutNum_L1 n j a.1.1 a.1.2.1 a.2.1)]
def F_spec_PutNum : Fn' ((List Int) × (Int × (Int × Unit))) ((List Int) × (Bool × Unit)) := ⟨64, (Tvs.cons (Tv.one (Lf.sh (.int .u8))) (Tvs.cons (Tv.one (Lf.int .i64)) (Tvs.cons (Tv.one (Lf.int .i64)) Tvs.nil))), (Rt.tup (Tvs.cons (Tv.one (Lf.od (.int .u8))) (Tvs.cons (Tv.one Lf.bool) Tvs.nil))), fun n a => spec_PutNum n a.1 a.2.1 a.2.2.1⟩
def S_spec_PutNum_L1 := Sh.of (Sl.gap 1 (Sl.one (Lf.int .i64) (Sl.gap 6 (Sl.k (Kf.ow 552) (Sl.one (Lf.int .i64) (Sl.gap 35 Sl.nil)))))) (Rw.data 552 (.int .u8) Rw.nil) Ls.nil
def T_spec_PutNum (n : Nat) : Tab ((List Int) × (Bool × Unit)) := [([.b, .r, .l, .r, .r, .r], row1 S_spec_PutNum_L1 fun j a => spec_PutNum_L1 n j a.1.1 a.1.2.1 a.2.1)]
def F_impl_GetNum : Fn' ((List Int) × (Int × (Int × Unit))) (Int × (Bool × Unit)) := ⟨65, (Tvs.cons (Tv.one (Lf.sh (.int .u8))) (Tvs.cons (Tv.one (Lf.int .i64)) (Tvs.cons (Tv.one (Lf.int .i64)) Tvs.nil))), (Rt.tup (Tvs.cons (Tv.one (Lf.int .i64)) (Tvs.cons (Tv.one Lf.bool) Tvs.nil))), fun n a => impl_GetNum n a.1 a.2.1 a.2.2.1⟩
def S_impl_GetNum_L1 := Sh.of (Sl.gap 8 (Sl.one (Lf.int .i64) (Sl.gap 25 (Sl.one (Lf.sh (.int .u8)) (Sl.one (Lf.int .i64) (Sl.one (Lf.int .i64) (Sl.gap 10 Sl.nil))))))) Rw.nil Ls.nil
def T_impl_GetNum (n : Nat) : Tab (Int × (Bool × Unit)) := [([.b, .r, .l, .r, .r, .r], row1 S_impl_GetNum_L1 fun j a => impl_GetNum_L1 n j a.1.1 a.1.2.1 a.1.2.2.1 a.1.2.2.2.1)]
def F_impl_NumText : Fn' (Int × Unit) ByteArray := ⟨66, (Tvs.cons (Tv.one (Lf.int .i64)) Tvs.nil), (Rt.v (Tv.one Lf.str)), fun n a => impl_NumText n a.1⟩
def S_impl_NumText_L1 := Sh.of (Sl.one (Lf.int .i64) (Sl.gap 2 (Sl.one Lf.str (Sl.gap 28 Sl.nil)))) Rw.nil Ls.nil
def T_impl_NumText (n : Nat) : Tab ByteArray := [([.b, .l, .r, .r, .r, .r], row1 S_impl_NumText_L1 fun j a => impl_NumText_L1 n j a.1.1 a.1.2.1)]
def F_impl_TextNum : Fn' (ByteArray × Unit) (Int × (Bool × Unit)) := ⟨67, (Tvs.cons (Tv.one Lf.str) Tvs.nil), (Rt.tup (Tvs.cons (Tv.one (Lf.int .i64)) (Tvs.cons (Tv.one Lf.bool) Tvs.nil))), fun n a => impl_TextNum n a.1⟩
def S_impl_TextNum_L1 := Sh.of (Sl.one Lf.str (Sl.gap 3 (Sl.one (Lf.int .i64) (Sl.one (Lf.int .i64) (Sl.one (Lf.int .i64) (Sl.gap 48 Sl.nil)))))) Rw.nil Ls.nil
def T_impl_TextNum (n : Nat) : Tab (Int × (Bool × Unit)) := [([.b, .r, .l, .r, .r, .r, .r, .r], row1 S_impl_TextNum_L1 fun j a => impl_TextNum_L1 n j a.1.1 a.1.2.1 a.1.2.2.1 a.1.2.2.2.1)]
def F_laws_FnNums : Fn' ((List Int) × Unit) Bool := ⟨10, (Tvs.cons (Tv.one (Lf.sh (.int .u8))) Tvs.nil), (Rt.v (Tv.one Lf.bool)), fun n a => laws_FnNums n a.1⟩
def ents : List Ent := [entOf F_spec_l01New, entOf F_spec_l01Byte, entOf F_spec_l01Below, entOf F_spec_l06Bytes, entOf F_spec_l01Raw, entOf F_spec_l06Pow, entOf F_spec_DrawPutNum, entOf F_impl_within, entOf F_impl_PutNum, entOf F_spec_PutNum, entOf F_impl_GetNum, entOf F_impl_NumText, entOf F_impl_TextNum, entOf F_laws_FnNums]
def callC (n : Nat) : CF := chain ents n
theorem eq_spec_l01New (n : Nat) (a) : evalBodyU env (callC n) n F_spec_l01New.g (T_spec_l01New n) (F_spec_l01New.args.to a) F_spec_l01New.ret.un = F_spec_l01New.run (n + 1) a := by kernel_rfl
theorem tab_spec_l01New (n : Nat) : TabOk env (callC n) n F_spec_l01New.g (T_spec_l01New n) F_spec_l01New.ret.un := tabOk (List.forall_mem_cons.mpr ⟨row1_ok (fun _ => rfl) (fun _ _ => by kernel_rfl), List.forall_mem_nil _⟩)
theorem eq_spec_l01Byte (n : Nat) (a) : evalBodyU env (callC n) n F_spec_l01Byte.g [] (F_spec_l01Byte.args.to a) F_spec_l01Byte.ret.un = F_spec_l01Byte.run (n + 1) a := by kernel_rfl
theorem eq_spec_l01Below (n : Nat) (a) : evalBodyU env (callC n) n F_spec_l01Below.g [] (F_spec_l01Below.args.to a) F_spec_l01Below.ret.un = F_spec_l01Below.run (n + 1) a := by kernel_rfl
theorem eq_spec_l06Bytes (n : Nat) (a) : evalBodyU env (callC n) n F_spec_l06Bytes.g (T_spec_l06Bytes n) (F_spec_l06Bytes.args.to a) F_spec_l06Bytes.ret.un = F_spec_l06Bytes.run (n + 1) a := by kernel_rfl
theorem tab_spec_l06Bytes (n : Nat) : TabOk env (callC n) n F_spec_l06Bytes.g (T_spec_l06Bytes n) F_spec_l06Bytes.ret.un := tabOk (List.forall_mem_cons.mpr ⟨row1_ok (fun _ => rfl) (fun _ _ => by kernel_rfl), List.forall_mem_nil _⟩)
theorem eq_spec_l01Raw (n : Nat) (a) : evalBodyU env (callC n) n F_spec_l01Raw.g [] (F_spec_l01Raw.args.to a) F_spec_l01Raw.ret.un = F_spec_l01Raw.run (n + 1) a := by kernel_rfl
theorem eq_spec_l06Pow (n : Nat) (a) : evalBodyU env (callC n) n F_spec_l06Pow.g (T_spec_l06Pow n) (F_spec_l06Pow.args.to a) F_spec_l06Pow.ret.un = F_spec_l06Pow.run (n + 1) a := by kernel_rfl
theorem tab_spec_l06Pow (n : Nat) : TabOk env (callC n) n F_spec_l06Pow.g (T_spec_l06Pow n) F_spec_l06Pow.ret.un := tabOk (List.forall_mem_cons.mpr ⟨row1_ok (fun _ => rfl) (fun _ _ => by kernel_rfl), List.forall_mem_nil _⟩)
theorem eq_spec_DrawPutNum (n : Nat) (a) : evalBodyU env (callC n) n F_spec_DrawPutNum.g [] (F_spec_DrawPutNum.args.to a) F_spec_DrawPutNum.ret.un = F_spec_DrawPutNum.run (n + 1) a := by kernel_rfl
theorem eq_impl_within (n : Nat) (a) : evalBodyU env (callC n) n F_impl_within.g [] (F_impl_within.args.to a) F_impl_within.ret.un = F_impl_within.run (n + 1) a := by kernel_rfl
theorem eq_impl_PutNum (n : Nat) (a) : evalBodyU env (callC n) n F_impl_PutNum.g (T_impl_PutNum n) (F_impl_PutNum.args.to a) F_impl_PutNum.ret.un = F_impl_PutNum.run (n + 1) a := by kernel_rfl
theorem tab_impl_PutNum (n : Nat) : TabOk env (callC n) n F_impl_PutNum.g (T_impl_PutNum n) F_impl_PutNum.ret.un := tabOk (List.forall_mem_cons.mpr ⟨row1_ok (fun _ => rfl) (fun _ _ => by kernel_rfl), List.forall_mem_nil _⟩)
theorem eq_spec_PutNum (n : Nat) (a) : evalBodyU env (callC n) n F_spec_PutNum.g (T_spec_PutNum n) (F_spec_PutNum.args.to a) F_spec_PutNum.ret.un = F_spec_PutNum.run (n + 1) a := by kernel_rfl
theorem tab_spec_PutNum (n : Nat) : TabOk env (callC n) n F_spec_PutNum.g (T_spec_PutNum n) F_spec_PutNum.ret.un := tabOk (List.forall_mem_cons.mpr ⟨row1_ok (fun _ => rfl) (fun _ _ => by kernel_rfl), List.forall_mem_nil _⟩)
theorem eq_impl_GetNum (n : Nat) (a) : evalBodyU env (callC n) n F_impl_GetNum.g (T_impl_GetNum n) (F_impl_GetNum.args.to a) F_impl_GetNum.ret.un = F_impl_GetNum.run (n + 1) a := by kernel_rfl
theorem tab_impl_GetNum (n : Nat) : TabOk env (callC n) n F_impl_GetNum.g (T_impl_GetNum n) F_impl_GetNum.ret.un := tabOk (List.forall_mem_cons.mpr ⟨row1_ok (fun _ => rfl) (fun _ _ => by kernel_rfl), List.forall_mem_nil _⟩)
theorem eq_impl_NumText (n : Nat) (a) : evalBodyU env (callC n) n F_impl_NumText.g (T_impl_NumText n) (F_impl_NumText.args.to a) F_impl_NumText.ret.un = F_impl_NumText.run (n + 1) a := by kernel_rfl
theorem tab_impl_NumText (n : Nat) : TabOk env (callC n) n F_impl_NumText.g (T_impl_NumText n) F_impl_NumText.ret.un := tabOk (List.forall_mem_cons.mpr ⟨row1_ok (fun _ => rfl) (fun _ _ => by kernel_rfl), List.forall_mem_nil _⟩)
theorem eq_impl_TextNum (n : Nat) (a) : evalBodyU env (callC n) n F_impl_TextNum.g (T_impl_TextNum n) (F_impl_TextNum.args.to a) F_impl_TextNum.ret.un = F_impl_TextNum.run (n + 1) a := by kernel_rfl
theorem tab_impl_TextNum (n : Nat) : TabOk env (callC n) n F_impl_TextNum.g (T_impl_TextNum n) F_impl_TextNum.ret.un := tabOk (List.forall_mem_cons.mpr ⟨row1_ok (fun _ => rfl) (fun _ _ => by kernel_rfl), List.forall_mem_nil _⟩)
theorem eq_laws_FnNums (n : Nat) (a) : evalBodyU env (callC n) n F_laws_FnNums.g [] (F_laws_FnNums.args.to a) F_laws_FnNums.ret.un = F_laws_FnNums.run (n + 1) a := by kernel_rfl
structure AllOk (n : Nat) : Prop where
  o_spec_l01New : FnOk Try.prog env F_spec_l01New n
  o_spec_l01Byte : FnOk Try.prog env F_spec_l01Byte n
  o_spec_l01Below : FnOk Try.prog env F_spec_l01Below n
  o_spec_l06Bytes : FnOk Try.prog env F_spec_l06Bytes n
  o_spec_l01Raw : FnOk Try.prog env F_spec_l01Raw n
  o_spec_l06Pow : FnOk Try.prog env F_spec_l06Pow n
  o_spec_DrawPutNum : FnOk Try.prog env F_spec_DrawPutNum n
  o_impl_within : FnOk Try.prog env F_impl_within n
  o_impl_PutNum : FnOk Try.prog env F_impl_PutNum n
  o_spec_PutNum : FnOk Try.prog env F_spec_PutNum n
  o_impl_GetNum : FnOk Try.prog env F_impl_GetNum n
  o_impl_NumText : FnOk Try.prog env F_impl_NumText n
  o_impl_TextNum : FnOk Try.prog env F_impl_TextNum n
  o_laws_FnNums : FnOk Try.prog env F_laws_FnNums n
theorem calls_ok {n : Nat} (h : AllOk n) : CFok Try.prog env (callC n) := chain_ok (by
  simp only [ents, List.forall_mem_cons, List.not_mem_nil, false_implies, implies_true, and_true]
  exact ⟨entOk_of h.o_spec_l01New, entOk_of h.o_spec_l01Byte, entOk_of h.o_spec_l01Below, entOk_of h.o_spec_l06Bytes, entOk_of h.o_spec_l01Raw, entOk_of h.o_spec_l06Pow, entOk_of h.o_spec_DrawPutNum, entOk_of h.o_impl_within, entOk_of h.o_impl_PutNum, entOk_of h.o_spec_PutNum, entOk_of h.o_impl_GetNum, entOk_of h.o_impl_NumText, entOk_of h.o_impl_TextNum, entOk_of h.o_laws_FnNums⟩)
theorem calls_det (n : Nat) : CFdet (callC n) := chain_det (by
  simp only [ents, List.forall_mem_cons, List.not_mem_nil, false_implies, implies_true, and_true]
  exact ⟨entDet F_spec_l01New, entDet F_spec_l01Byte, entDet F_spec_l01Below, entDet F_spec_l06Bytes, entDet F_spec_l01Raw, entDet F_spec_l06Pow, entDet F_spec_DrawPutNum, entDet F_impl_within, entDet F_impl_PutNum, entDet F_spec_PutNum, entDet F_impl_GetNum, entDet F_impl_NumText, entDet F_impl_TextNum, entDet F_laws_FnNums⟩)
theorem all_ok : ∀ n, AllOk n
  | 0 => ⟨fnOk_zero fun a => rfl, fnOk_zero fun a => rfl, fnOk_zero fun a => rfl, fnOk_zero fun a => rfl, fnOk_zero fun a => rfl, fnOk_zero fun a => rfl, fnOk_zero fun a => rfl, fnOk_zero fun a => rfl, fnOk_zero fun a => rfl, fnOk_zero fun a => rfl, fnOk_zero fun a => rfl, fnOk_zero fun a => rfl, fnOk_zero fun a => rfl, fnOk_zero fun a => rfl⟩
  | n + 1 => ⟨fnOk_succ envOk eqsOk (calls_ok (all_ok n)) (calls_det n) (tab_spec_l01New n) (eq_spec_l01New n), fnOk_succ envOk eqsOk (calls_ok (all_ok n)) (calls_det n) tabOk_nil (eq_spec_l01Byte n), fnOk_succ envOk eqsOk (calls_ok (all_ok n)) (calls_det n) tabOk_nil (eq_spec_l01Below n), fnOk_succ envOk eqsOk (calls_ok (all_ok n)) (calls_det n) (tab_spec_l06Bytes n) (eq_spec_l06Bytes n), fnOk_succ envOk eqsOk (calls_ok (all_ok n)) (calls_det n) tabOk_nil (eq_spec_l01Raw n), fnOk_succ envOk eqsOk (calls_ok (all_ok n)) (calls_det n) (tab_spec_l06Pow n) (eq_spec_l06Pow n), fnOk_succ envOk eqsOk (calls_ok (all_ok n)) (calls_det n) tabOk_nil (eq_spec_DrawPutNum n), fnOk_succ envOk eqsOk (calls_ok (all_ok n)) (calls_det n) tabOk_nil (eq_impl_within n), fnOk_succ envOk eqsOk (calls_ok (all_ok n)) (calls_det n) (tab_impl_PutNum n) (eq_impl_PutNum n), fnOk_succ envOk eqsOk (calls_ok (all_ok n)) (calls_det n) (tab_spec_PutNum n) (eq_spec_PutNum n), fnOk_succ envOk eqsOk (calls_ok (all_ok n)) (calls_det n) (tab_impl_GetNum n) (eq_impl_GetNum n), fnOk_succ envOk eqsOk (calls_ok (all_ok n)) (calls_det n) (tab_impl_NumText n) (eq_impl_NumText n), fnOk_succ envOk eqsOk (calls_ok (all_ok n)) (calls_det n) (tab_impl_TextNum n) (eq_impl_TextNum n), fnOk_succ envOk eqsOk (calls_ok (all_ok n)) (calls_det n) tabOk_nil (eq_laws_FnNums n)⟩
end Go.Proofs.Ytanipajbapcgfaa.Ev

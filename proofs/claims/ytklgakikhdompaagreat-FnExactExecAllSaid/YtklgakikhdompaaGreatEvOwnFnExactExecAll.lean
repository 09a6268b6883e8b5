/- The law FnExactExecAll of the given program returns true for every input, and each argument reads afterwards as it read before; no condition beyond the row's own. -/
import Derived.Test.YtklgakikhdompaaGreatRows
import Derived.Test.YtklgakikhdompaaGreatEvTabFnExactExecAll
import Derived.Test.YtklgakikhdompaaGreatEvPureFnExactExecAll
import Derived.WalkKit
import Derived.ProofKit
import Derived.OpenShut
import Derived.ShutString
import Derived.ChangeOld
import Derived.Below
import Derived.SizedLaws
set_option linter.all false
namespace Go.Proofs.YtklgakikhdompaaGreat.fnExactExecAll
open Go.ChangeShapes Go.WideShapes Go.ChangeAt Go.RowKit
open Go.Proofs.YtklgakikhdompaaGreat.Ev
set_option linter.unusedVariables false
theorem pure_law (x0 : Kd.T ((.pair (.sl (.pair .str (.pair (.sl (.pair .str (.pair (.int .i64) (.pair .bool (.pair .bool (.pair (.int .i64) (.pair (.int .i64) .str))))))) (.sl .str)))) (.sl (.sl (.sl (.pair (.int .i64) (.pair (.int .i64) .str)))))))) (w0 : Wf bytesOf ((.pair (.sl (.pair .str (.pair (.sl (.pair .str (.pair (.int .i64) (.pair .bool (.pair .bool (.pair (.int .i64) (.pair (.int .i64) .str))))))) (.sl .str)))) (.sl (.sl (.sl (.pair (.int .i64) (.pair (.int .i64) .str))))))) x0) (x1 : Kd.T ((.sl (.pair (.int .i64) (.pair .str (.pair (.sl (.pair (.int .i64) (.pair (.int .i64) .str))) (.pair (.sl (.pair (.int .i64) (.pair (.int .i64) .str))) (.pair (.int .i64) (.pair .str (.pair (.sl (.pair .str (.pair (.int .i64) (.pair .bool (.pair .bool (.pair (.int .i64) (.pair (.int .i64) .str))))))) (.pair (.sl .str) (.pair .str .str)))))))))))) (w1 : Wf bytesOf ((.sl (.pair (.int .i64) (.pair .str (.pair (.sl (.pair (.int .i64) (.pair (.int .i64) .str))) (.pair (.sl (.pair (.int .i64) (.pair (.int .i64) .str))) (.pair (.int .i64) (.pair .str (.pair (.sl (.pair .str (.pair (.int .i64) (.pair .bool (.pair .bool (.pair (.int .i64) (.pair (.int .i64) .str))))))) (.pair (.sl .str) (.pair .str .str))))))))))) x1) : ∃ n, F_laws_FnExactExecAll.run n (x0, (x1, ())) = some true := by
  obtain ⟨N, h⟩ := law_ExecAll
  exact ⟨N, h N (Nat.le_refl N) x0 x1 (wf_Db bytes_pos x0 w0) (wf_StmtS bytes_pos x1 w1)⟩
theorem own : ownKnob Tryz.prog.godebug = none := by kernel_rfl
theorem laidOut : laidOutB Tryz.prog = true := by kernel_rfl
set_option maxRecDepth 100000 in
theorem lifted (os : Os) (started : os.Started) (H : Type) (enc : TypeId × Value → H) :
    ReturnsInHanded {} Tryz.checked os 5 .any (Rows.fnExactExecAllSpec.pre6 enc Tryz.prog Tryz.f5 Rows.fnExactExecAllRow.domain false) (Rows.fnExactExecAllSpec.post enc Tryz.prog Tryz.f5 false true false false) := by
  refine returnsInHanded_of_change_sized (C := Tryz.checked) own started (by kernel_rfl) Tryz.func5
    (ChangeSpec.witness6 (enc := enc) (C := Tryz.checked) false ⟨#[], #[.agg #[.slice none 0 0, .slice none 0 0], .slice none 0 0], []⟩ 8 (by kernel_rfl) (by kernel_rfl) (by kernel_rfl) (by kernel_rfl)) ?_
  intro W base args ds gs before hval0 hW hcnd hsz0 _
  have hsz : (DataW.weightsEach Tryz.prog (Tryz.f5.params.toList ++ Rows.fnExactExecAllSpec.plain.varTypes Tryz.prog) (ds ++ gs)).all (· ≤ reachBytes) = true := hsz0
  have hval : ∀ (j : Nat) t v, Tryz.f5.params[j]? = some t → args[j]? = some v → Value.okWide Tryz.prog W .any base t v := hval0
  have hW' := hW
  obtain ⟨p, q, hA0, hV, rfl, hfz, hnd⟩ := hW
  have hA : DataW.TrodAll enc Tryz.prog W 0 (fun _ => true) true Tryz.f5.params.toList args.toList ds p := hA0
  rw [Tryz.params5] at hA hval hsz
  obtain ⟨v0, vs0, d0, ds0, p0, q0, hargs, rfl, rfl, h0, r0⟩ := trodAll_cons hA
  obtain ⟨v1, vs1, d1, ds1, p1, q1, rfl, rfl, rfl, h1, r1⟩ := trodAll_cons r0
  obtain ⟨rfl, rfl, rfl⟩ := trodAll_nil r1
  obtain rfl : args = #[v0, v1] := by cases args; simp_all
  obtain ⟨rfl, rfl⟩ := trodVars_none hV
  have lt0 : ∀ x ∈ p0, x.block < W.heap.size := by obtain ⟨m, hm⟩ := h0; exact DataW.trod_lt m _ _ _ hm
  obtain ⟨x0, w0, s0⟩ := arg_plain (n := 12) (B := bytesOf) (f := (.pair (.sl (.pair .str (.pair (.sl (.pair .str (.pair (.int .i64) (.pair .bool (.pair .bool (.pair (.int .i64) (.pair (.int .i64) .str))))))) (.sl .str)))) (.sl (.sl (.sl (.pair (.int .i64) (.pair (.int .i64) .str))))))) (by kernel_rfl) h0 (fun k hk => of_decide_eq_true (List.all_eq_true.mp hsz k (DataW.weights_mem_each (j := 0) rfl rfl k hk))) (hval 0 50 v0 rfl rfl)
  have lt1 : ∀ x ∈ p1, x.block < W.heap.size := by obtain ⟨m, hm⟩ := h1; exact DataW.trod_lt m _ _ _ hm
  obtain ⟨x1, w1, s1⟩ := arg_plain (n := 12) (B := bytesOf) (f := (.sl (.pair (.int .i64) (.pair .str (.pair (.sl (.pair (.int .i64) (.pair (.int .i64) .str))) (.pair (.sl (.pair (.int .i64) (.pair (.int .i64) .str))) (.pair (.int .i64) (.pair .str (.pair (.sl (.pair .str (.pair (.int .i64) (.pair .bool (.pair .bool (.pair (.int .i64) (.pair (.int .i64) .str))))))) (.pair (.sl .str) (.pair .str .str))))))))))) (by kernel_rfl) h1 (fun k hk => of_decide_eq_true (List.all_eq_true.mp hsz k (DataW.weights_mem_each (j := 1) rfl rfl k hk))) (hval 1 68 v1 rfl rfl)
  clear hA0 hval0 hsz0 hsz
  obtain ⟨n, hn⟩ := pure_law x0 w0 x1 w1
  have hcall : CallOk Tryz.prog [] false 5 (F_laws_FnExactExecAll.args.to (x0, (x1, ()))) (.v (.one (.bool true))) := law_ok n (x0, (x1, ())) true hn
  refine (law_calls (w := W) (args := #[v0, v1]) hcall (s0 (s1 (rfl : ArgsR _ _ _ _ _ [] [])))).mono fun e W' ⟨he, bel⟩ => ?_
  subst he
  exact ⟨_, rfl, _, _, _, [], _, [], hW', trodAll_mk1 (shut_bool Tryz.underlying4 _), (trodAll_cons_mk (Below.trod laidOut (by kernel_rfl) (of_decide_eq_true (by kernel_rfl)) h0 bel lt0) (trodAll_cons_mk (Below.trod laidOut (by kernel_rfl) (of_decide_eq_true (by kernel_rfl)) h1 bel lt1) trodAll_mk0)), rfl, bel.frame _, fun h => by cases h⟩
theorem over : Rows.fnExactExecAllRow.holds Tryz.pinned (OpenSpec.ofChange Rows.fnExactExecAllSpec) :=
  OpenClaim.holds_of_wide 5 Tryz.f5 rfl rfl rfl rfl rfl rfl rfl ⟨rfl, rfl, rfl, rfl, rfl⟩ rfl rfl rfl rfl rfl (by kernel_rfl) Tryz.func5 (by kernel_rfl)
    (of_decide_eq_true (by kernel_rfl)) (by unfold Func.isWrapper; first | (rw [if_pos (by decide +kernel)]; kernel_rfl) | (rw [if_neg (by decide +kernel)]; exact ⟨rfl, rfl⟩))
    (fun os started H enc _ => lifted os started H enc)
theorem proved : Rows.FnExactExecAllSaid := over
end Go.Proofs.YtklgakikhdompaaGreat.fnExactExecAll
namespace Go.Proofs.YtklgakikhdompaaGreat
/-- The row, under a short name, for the claim. -/
theorem fnExactExecAll_holds : Rows.FnExactExecAllSaid := fnExactExecAll.proved
end Go.Proofs.YtklgakikhdompaaGreat

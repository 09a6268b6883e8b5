/- The law FnExactExec of the given program returns true for every input, and each argument reads afterwards as it read before; no condition beyond the row's own. -/
import Derived.Test.YtklgakikhdompaaGreatRows
import Derived.Test.YtklgakikhdompaaGreatEvTabFnExactExec
import Derived.Test.YtklgakikhdompaaGreatEvPureFnExactExec
import Derived.WalkKit
import Derived.ProofKit
import Derived.OpenShut
import Derived.ShutString
import Derived.ChangeOld
import Derived.Below
import Derived.SizedLaws
set_option linter.all false
namespace Go.Proofs.YtklgakikhdompaaGreat.fnExactExec
open Go.ChangeShapes Go.WideShapes Go.ChangeAt Go.RowKit
open Go.Proofs.YtklgakikhdompaaGreat.Ev
set_option linter.unusedVariables false
theorem pure_law (x0 : Kd.T ((.pair (.sl (.pair .str (.pair (.sl (.pair .str (.pair (.int .i64) (.pair .bool (.pair .bool (.pair (.int .i64) (.pair (.int .i64) .str))))))) (.sl .str)))) (.sl (.sl (.sl (.pair (.int .i64) (.pair (.int .i64) .str)))))))) (w0 : Wf bytesOf ((.pair (.sl (.pair .str (.pair (.sl (.pair .str (.pair (.int .i64) (.pair .bool (.pair .bool (.pair (.int .i64) (.pair (.int .i64) .str))))))) (.sl .str)))) (.sl (.sl (.sl (.pair (.int .i64) (.pair (.int .i64) .str))))))) x0) (x1 : Kd.T ((.pair (.int .i64) (.pair .str (.pair (.sl (.pair (.int .i64) (.pair (.int .i64) .str))) (.pair (.sl (.pair (.int .i64) (.pair (.int .i64) .str))) (.pair (.int .i64) (.pair .str (.pair (.sl (.pair .str (.pair (.int .i64) (.pair .bool (.pair .bool (.pair (.int .i64) (.pair (.int .i64) .str))))))) (.pair (.sl .str) (.pair .str .str))))))))))) (w1 : Wf bytesOf ((.pair (.int .i64) (.pair .str (.pair (.sl (.pair (.int .i64) (.pair (.int .i64) .str))) (.pair (.sl (.pair (.int .i64) (.pair (.int .i64) .str))) (.pair (.int .i64) (.pair .str (.pair (.sl (.pair .str (.pair (.int .i64) (.pair .bool (.pair .bool (.pair (.int .i64) (.pair (.int .i64) .str))))))) (.pair (.sl .str) (.pair .str .str)))))))))) x1) : ∃ n, F_laws_FnExactExec.run n (x0, (x1, ())) = some true := by
  obtain ⟨N, h⟩ := law_Exec
  exact ⟨N, h N (Nat.le_refl N) x0 x1 (wf_Db bytes_pos x0 w0) (wf_Stmt bytes_pos x1 w1)⟩
theorem own : ownKnob Tryz.prog.godebug = none := by kernel_rfl
theorem laidOut : laidOutB Tryz.prog = true := by kernel_rfl
set_option maxRecDepth 100000 in
theorem lifted (os : Os) (started : os.Started) (H : Type) (enc : TypeId × Value → H) :
    ReturnsInHanded {} Tryz.checked os 4 .any (Rows.fnExactExecSpec.pre6 enc Tryz.prog Tryz.f4 Rows.fnExactExecRow.domain false) (Rows.fnExactExecSpec.post enc Tryz.prog Tryz.f4 false true false false) := by
  refine returnsInHanded_of_change_sized (C := Tryz.checked) own started (by kernel_rfl) Tryz.func4
    (ChangeSpec.witness6 (enc := enc) (C := Tryz.checked) false ⟨#[], #[.agg #[.slice none 0 0, .slice none 0 0], .agg #[.int .i64 0, .string ⟨#[]⟩, .slice none 0 0, .slice none 0 0, .int .i64 0, .string ⟨#[]⟩, .slice none 0 0, .slice none 0 0, .string ⟨#[]⟩, .string ⟨#[]⟩]], []⟩ 8 (by kernel_rfl) (by kernel_rfl) (by kernel_rfl) (by kernel_rfl)) ?_
  intro W base args ds gs before hval0 hW hcnd hsz0 _
  have hsz : (DataW.weightsEach Tryz.prog (Tryz.f4.params.toList ++ Rows.fnExactExecSpec.plain.varTypes Tryz.prog) (ds ++ gs)).all (· ≤ reachBytes) = true := hsz0
  have hval : ∀ (j : Nat) t v, Tryz.f4.params[j]? = some t → args[j]? = some v → Value.okWide Tryz.prog W .any base t v := hval0
  have hW' := hW
  obtain ⟨p, q, hA0, hV, rfl, hfz, hnd⟩ := hW
  have hA : DataW.TrodAll enc Tryz.prog W 0 (fun _ => true) true Tryz.f4.params.toList args.toList ds p := hA0
  rw [Tryz.params4] at hA hval hsz
  obtain ⟨v0, vs0, d0, ds0, p0, q0, hargs, rfl, rfl, h0, r0⟩ := trodAll_cons hA
  obtain ⟨v1, vs1, d1, ds1, p1, q1, rfl, rfl, rfl, h1, r1⟩ := trodAll_cons r0
  obtain ⟨rfl, rfl, rfl⟩ := trodAll_nil r1
  obtain rfl : args = #[v0, v1] := by cases args; simp_all
  obtain ⟨rfl, rfl⟩ := trodVars_none hV
  have lt0 : ∀ x ∈ p0, x.block < W.heap.size := by obtain ⟨m, hm⟩ := h0; exact DataW.trod_lt m _ _ _ hm
  obtain ⟨x0, w0, s0⟩ := arg_plain (n := 12) (B := bytesOf) (f := (.pair (.sl (.pair .str (.pair (.sl (.pair .str (.pair (.int .i64) (.pair .bool (.pair .bool (.pair (.int .i64) (.pair (.int .i64) .str))))))) (.sl .str)))) (.sl (.sl (.sl (.pair (.int .i64) (.pair (.int .i64) .str))))))) (by kernel_rfl) h0 (fun k hk => of_decide_eq_true (List.all_eq_true.mp hsz k (DataW.weights_mem_each (j := 0) rfl rfl k hk))) (hval 0 50 v0 rfl rfl)
  have lt1 : ∀ x ∈ p1, x.block < W.heap.size := by obtain ⟨m, hm⟩ := h1; exact DataW.trod_lt m _ _ _ hm
  obtain ⟨x1, w1, s1⟩ := arg_plain (n := 12) (B := bytesOf) (f := (.pair (.int .i64) (.pair .str (.pair (.sl (.pair (.int .i64) (.pair (.int .i64) .str))) (.pair (.sl (.pair (.int .i64) (.pair (.int .i64) .str))) (.pair (.int .i64) (.pair .str (.pair (.sl (.pair .str (.pair (.int .i64) (.pair .bool (.pair .bool (.pair (.int .i64) (.pair (.int .i64) .str))))))) (.pair (.sl .str) (.pair .str .str)))))))))) (by kernel_rfl) h1 (fun k hk => of_decide_eq_true (List.all_eq_true.mp hsz k (DataW.weights_mem_each (j := 1) rfl rfl k hk))) (hval 1 58 v1 rfl rfl)
  clear hA0 hval0 hsz0 hsz
  obtain ⟨n, hn⟩ := pure_law x0 w0 x1 w1
  have hcall : CallOk Tryz.prog [] false 4 (F_laws_FnExactExec.args.to (x0, (x1, ()))) (.v (.one (.bool true))) := law_ok n (x0, (x1, ())) true hn
  refine (law_calls (w := W) (args := #[v0, v1]) hcall (s0 (s1 (rfl : ArgsR _ _ _ _ _ [] [])))).mono fun e W' ⟨he, bel⟩ => ?_
  subst he
  exact ⟨_, rfl, _, _, _, [], _, [], hW', trodAll_mk1 (shut_bool Tryz.underlying4 _), (trodAll_cons_mk (Below.trod laidOut (by kernel_rfl) (of_decide_eq_true (by kernel_rfl)) h0 bel lt0) (trodAll_cons_mk (Below.trod laidOut (by kernel_rfl) (of_decide_eq_true (by kernel_rfl)) h1 bel lt1) trodAll_mk0)), rfl, bel.frame _, fun h => by cases h⟩
theorem over : Rows.fnExactExecRow.holds Tryz.pinned (OpenSpec.ofChange Rows.fnExactExecSpec) :=
  OpenClaim.holds_of_wide 4 Tryz.f4 rfl rfl rfl rfl rfl rfl rfl ⟨rfl, rfl, rfl, rfl, rfl⟩ rfl rfl rfl rfl rfl (by kernel_rfl) Tryz.func4 (by kernel_rfl)
    (of_decide_eq_true (by kernel_rfl)) (by unfold Func.isWrapper; first | (rw [if_pos (by decide +kernel)]; kernel_rfl) | (rw [if_neg (by decide +kernel)]; exact ⟨rfl, rfl⟩))
    (fun os started H enc _ => lifted os started H enc)
theorem proved : Rows.FnExactExecSaid := over
end Go.Proofs.YtklgakikhdompaaGreat.fnExactExec
namespace Go.Proofs.YtklgakikhdompaaGreat
/-- The row, under a short name, for the claim. -/
theorem fnExactExec_holds : Rows.FnExactExecSaid := fnExactExec.proved
end Go.Proofs.YtklgakikhdompaaGreat

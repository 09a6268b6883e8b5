/- The law FnExactGetNum of the given program returns true for every input, and each argument reads afterwards as it read before; no condition beyond the row's own. -/
import Derived.Test.YtiahfopdamngiaaRows
import Derived.Test.YtiahfopdamngiaaEvTabFnExactGetNum
import Derived.Test.YtiahfopdamngiaaEvPureFnExactGetNum
import Derived.WalkKit
import Derived.ProofKit
import Derived.OpenShut
import Derived.ShutString
import Derived.ChangeOld
import Derived.Below
import Derived.SizedLaws
set_option linter.all false
namespace Go.Proofs.Ytiahfopdamngiaa.fnExactGetNum
open Go.ChangeShapes Go.WideShapes Go.ChangeAt Go.RowKit
open Go.Proofs.Ytiahfopdamngiaa.Ev
set_option linter.unusedVariables false
theorem pure_law (x0 : Kd.T ((.sl (.int .u8)))) (w0 : Wf bytesOf ((.sl (.int .u8))) x0) (x1 : Kd.T ((.int .i64))) (w1 : Wf bytesOf ((.int .i64)) x1) (x2 : Kd.T ((.int .i64))) (w2 : Wf bytesOf ((.int .i64)) x2) : ∃ n, F_laws_FnExactGetNum.run n (x0, (x1, (x2, ()))) = some true := by
  obtain ⟨N, h⟩ := law_GetNum
  exact ⟨N, h N (Nat.le_refl N) x0 x1 x2 (wf_ByteS bytes_pos x0 w0)⟩
theorem own : ownKnob Try.prog.godebug = none := by kernel_rfl
theorem laidOut : laidOutB Try.prog = true := by kernel_rfl
set_option maxRecDepth 100000 in
theorem lifted (os : Os) (started : os.Started) (H : Type) (enc : TypeId × Value → H) :
    ReturnsInHanded {} Try.checked os 7 .any (Rows.fnExactGetNumSpec.pre6 enc Try.prog Try.f7 Rows.fnExactGetNumRow.domain false) (Rows.fnExactGetNumSpec.post enc Try.prog Try.f7 false true false false) := by
  refine returnsInHanded_of_change_sized (C := Try.checked) own started (by kernel_rfl) Try.func7
    (ChangeSpec.witness6 (enc := enc) (C := Try.checked) false ⟨#[], #[.slice none 0 0, .int .i64 0, .int .i64 0], []⟩ 8 (by kernel_rfl) (by kernel_rfl) (by kernel_rfl) (by kernel_rfl)) ?_
  intro W base args ds gs before hval0 hW hcnd hsz0 _
  have hsz : (DataW.weightsEach Try.prog (Try.f7.params.toList ++ Rows.fnExactGetNumSpec.plain.varTypes Try.prog) (ds ++ gs)).all (· ≤ reachBytes) = true := hsz0
  have hval : ∀ (j : Nat) t v, Try.f7.params[j]? = some t → args[j]? = some v → Value.okWide Try.prog W .any base t v := hval0
  have hW' := hW
  obtain ⟨p, q, hA0, hV, rfl, hfz, hnd⟩ := hW
  have hA : DataW.TrodAll enc Try.prog W 0 (fun _ => true) true Try.f7.params.toList args.toList ds p := hA0
  rw [Try.params7] at hA hval hsz
  obtain ⟨v0, vs0, d0, ds0, p0, q0, hargs, rfl, rfl, h0, r0⟩ := trodAll_cons hA
  obtain ⟨v1, vs1, d1, ds1, p1, q1, rfl, rfl, rfl, h1, r1⟩ := trodAll_cons r0
  obtain ⟨v2, vs2, d2, ds2, p2, q2, rfl, rfl, rfl, h2, r2⟩ := trodAll_cons r1
  obtain ⟨rfl, rfl, rfl⟩ := trodAll_nil r2
  obtain rfl : args = #[v0, v1, v2] := by cases args; simp_all
  obtain ⟨rfl, rfl⟩ := trodVars_none hV
  have lt0 : ∀ x ∈ p0, x.block < W.heap.size := by obtain ⟨m, hm⟩ := h0; exact DataW.trod_lt m _ _ _ hm
  obtain ⟨x0, w0, s0⟩ := arg_plain (n := 12) (B := bytesOf) (f := (.sl (.int .u8))) (by kernel_rfl) h0 (fun k hk => of_decide_eq_true (List.all_eq_true.mp hsz k (DataW.weights_mem_each (j := 0) rfl rfl k hk))) (hval 0 26 v0 rfl rfl)
  have lt1 : ∀ x ∈ p1, x.block < W.heap.size := by obtain ⟨m, hm⟩ := h1; exact DataW.trod_lt m _ _ _ hm
  obtain ⟨x1, w1, s1⟩ := arg_plain (n := 12) (B := bytesOf) (f := (.int .i64)) (by kernel_rfl) h1 (fun k hk => of_decide_eq_true (List.all_eq_true.mp hsz k (DataW.weights_mem_each (j := 1) rfl rfl k hk))) (hval 1 3 v1 rfl rfl)
  have lt2 : ∀ x ∈ p2, x.block < W.heap.size := by obtain ⟨m, hm⟩ := h2; exact DataW.trod_lt m _ _ _ hm
  obtain ⟨x2, w2, s2⟩ := arg_plain (n := 12) (B := bytesOf) (f := (.int .i64)) (by kernel_rfl) h2 (fun k hk => of_decide_eq_true (List.all_eq_true.mp hsz k (DataW.weights_mem_each (j := 2) rfl rfl k hk))) (hval 2 3 v2 rfl rfl)
  clear hA0 hval0 hsz0 hsz
  obtain ⟨n, hn⟩ := pure_law x0 w0 x1 w1 x2 w2
  have hcall : CallOk Try.prog 7 (F_laws_FnExactGetNum.args.to (x0, (x1, (x2, ())))) (.v (.one (.bool true))) := (all_ok n).o_laws_FnExactGetNum (x0, (x1, (x2, ()))) true hn
  refine (law_calls (w := W) (args := #[v0, v1, v2]) hcall (s0 (s1 (s2 (rfl : ArgsR _ _ _ _ [] []))))).mono fun e W' ⟨he, bel⟩ => ?_
  subst he
  exact ⟨_, rfl, _, _, _, [], _, [], hW', trodAll_mk1 (shut_bool Try.underlying4 _), (trodAll_cons_mk (Below.trod laidOut (by kernel_rfl) (of_decide_eq_true (by kernel_rfl)) h0 bel lt0) (trodAll_cons_mk (Below.trod laidOut (by kernel_rfl) (of_decide_eq_true (by kernel_rfl)) h1 bel lt1) (trodAll_cons_mk (Below.trod laidOut (by kernel_rfl) (of_decide_eq_true (by kernel_rfl)) h2 bel lt2) trodAll_mk0))), rfl, bel.frame _, fun h => by cases h⟩
theorem over : Rows.fnExactGetNumRow.holds Try.pinned (OpenSpec.ofChange Rows.fnExactGetNumSpec) :=
  OpenClaim.holds_of_wide 7 Try.f7 rfl rfl rfl rfl rfl rfl rfl ⟨rfl, rfl, rfl, rfl, rfl⟩ rfl rfl rfl rfl rfl (by kernel_rfl) Try.func7 (by kernel_rfl)
    (of_decide_eq_true (by kernel_rfl)) (by unfold Func.isWrapper; first | (rw [if_pos (by decide +kernel)]; kernel_rfl) | (rw [if_neg (by decide +kernel)]; exact ⟨rfl, rfl⟩))
    (fun os started H enc _ => lifted os started H enc)
theorem proved : Rows.FnExactGetNumSaid := over
end Go.Proofs.Ytiahfopdamngiaa.fnExactGetNum
namespace Go.Proofs.Ytiahfopdamngiaa
/-- The row, under a short name, for the claim. -/
theorem fnExactGetNum_holds : Rows.FnExactGetNumSaid := fnExactGetNum.proved
end Go.Proofs.Ytiahfopdamngiaa

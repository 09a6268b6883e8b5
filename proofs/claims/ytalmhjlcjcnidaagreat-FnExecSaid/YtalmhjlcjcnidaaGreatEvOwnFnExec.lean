/- The law FnExec of the given program returns true for every input, and each argument reads afterwards as it read before; no condition beyond the row's own. -/
import Derived.Test.YtalmhjlcjcnidaaGreatRows
import Derived.Test.YtalmhjlcjcnidaaGreatEvTabFnExec
import Derived.Test.YtalmhjlcjcnidaaGreatEvPureFnExec
import Derived.WalkKit
import Derived.ProofKit
import Derived.OpenShut
import Derived.ShutString
import Derived.ChangeOld
import Derived.Below
import Derived.SizedLaws
set_option linter.all false
namespace Go.Proofs.YtalmhjlcjcnidaaGreat.fnExec
open Go.ChangeShapes Go.WideShapes Go.ChangeAt Go.RowKit
open Go.Proofs.YtalmhjlcjcnidaaGreat.Ev
set_option linter.unusedVariables false
theorem pure_law (x0:Kd.T ((.sl (.int .u8))))(w0:Wf bytesOf ((.sl (.int .u8))) x0):∃n,C3z.run n (x0,())=some true:=by
  obtain⟨N,h⟩:=E2i
  exact⟨N,h N (Nat.le_refl N) x0 (E33 E2r x0 w0)⟩
theorem own:ownKnob Tryz.prog.godebug=none:=by kernel_rfl
theorem laidOut:laidOutB Tryz.prog=true:=by kernel_rfl
set_option maxRecDepth 100000 in
theorem lifted (os:Os)(started:os.Started)(H:Type)(enc:TypeId×Value→H):
    ReturnsInHanded {} Tryz.checked os 3 .any (Rows.fnExecSpec.pre6 enc Tryz.prog Tryz.f3 Rows.fnExecRow.domain false) (Rows.fnExecSpec.post enc Tryz.prog Tryz.f3 false true false false):=by
  refine returnsInHanded_of_change_sized (C:=Tryz.checked) own started (by kernel_rfl) Tryz.func3
    (ChangeSpec.witness6 (enc:=enc) (C:=Tryz.checked) false ⟨#[],#[.slice none 0 0],[]⟩ 8 (by kernel_rfl) (by kernel_rfl) (by kernel_rfl) (by kernel_rfl)) ?_
  intro W base args ds gs before hval0 hW hcnd hsz0 _
  have hsz:(DataW.weightsEach Tryz.prog (Tryz.f3.params.toList++Rows.fnExecSpec.plain.varTypes Tryz.prog) (ds++gs)).all (·≤reachBytes)=true:=hsz0
  have hval:∀(j:Nat) t v,Tryz.f3.params[j]?=some t→args[j]?=some v→Value.okWide Tryz.prog W .any base t v:=hval0
  have hW':=hW
  obtain⟨p,q,hA0,hV,rfl,hfz,hnd⟩:=hW
  have hA:DataW.TrodAll enc Tryz.prog W 0 (fun _=>true) true Tryz.f3.params.toList args.toList ds p:=hA0
  rw[Tryz.params3]at hA hval hsz
  obtain⟨v0,vs0,d0,ds0,p0,q0,hargs,rfl,rfl,h0,r0⟩:=trodAll_cons hA
  obtain⟨rfl,rfl,rfl⟩:=trodAll_nil r0
  obtain rfl:args=#[v0]:=by cases args;simp_all
  obtain⟨rfl,rfl⟩:=trodVars_none hV
  have lt0:∀x∈p0,x.block<W.heap.size:=by obtain⟨m,hm⟩:=h0;exact DataW.trod_lt m _ _ _ hm
  obtain⟨x0,w0,s0⟩:=B13 (n:=12) (B:=bytesOf) (f:=(.sl (.int .u8))) (by kernel_rfl) h0 (fun k hk=>of_decide_eq_true (List.all_eq_true.mp hsz k (DataW.weights_mem_each (j:=0) rfl rfl k hk))) (hval 0 22 v0 rfl rfl)
  clear hA0 hval0 hsz0 hsz
  obtain⟨n,hn⟩:=pure_law x0 w0
  have hcall:N0 Tryz.prog [] false 3 (C3z.args.to (x0,())) (.v (.one (.bool true))):=E36 n (x0,()) true hn
  refine(B17 (w:=W) (args:=#[v0]) hcall (s0 (rfl:H5 _ _ _ _ _ [] []))).mono fun e W' ⟨he,bel⟩=>?_
  subst he
  exact⟨_,rfl,_,_,_,[],_,[],hW',trodAll_mk1 (shut_bool Tryz.underlying4 _),(trodAll_cons_mk (Below.trod laidOut (by kernel_rfl) (of_decide_eq_true (by kernel_rfl)) h0 bel lt0) trodAll_mk0),rfl,bel.frame _,fun h=>by cases h⟩
theorem over:Rows.fnExecRow.holds Tryz.pinned (OpenSpec.ofChange Rows.fnExecSpec):=
  OpenClaim.holds_of_wide 3 Tryz.f3 rfl rfl rfl rfl rfl rfl rfl ⟨rfl,rfl,rfl,rfl,rfl⟩ rfl rfl rfl rfl rfl (by kernel_rfl) Tryz.func3 (by kernel_rfl)
    (of_decide_eq_true (by kernel_rfl)) (by unfold Func.isWrapper;first|(rw[if_pos (by decide+kernel)];kernel_rfl)|(rw[if_neg (by decide+kernel)];exact⟨rfl,rfl⟩))
    (fun os started H enc _=>lifted os started H enc)
theorem proved:Rows.FnExecSaid:=over
end Go.Proofs.YtalmhjlcjcnidaaGreat.fnExec
namespace Go.Proofs.YtalmhjlcjcnidaaGreat
/-- The row,under a short name,for the claim. -/
theorem fnExec_holds:Rows.FnExecSaid:=fnExec.proved
end Go.Proofs.YtalmhjlcjcnidaaGreat

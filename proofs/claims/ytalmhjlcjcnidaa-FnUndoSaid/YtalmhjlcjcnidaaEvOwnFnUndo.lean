/- The law FnUndo of the given program returns true for every input, and each argument reads afterwards as it read before; no condition beyond the row's own. -/
import Derived.Test.YtalmhjlcjcnidaaRows
import Derived.Test.YtalmhjlcjcnidaaEvTabFnUndo
import Derived.Test.YtalmhjlcjcnidaaEvPureFnUndo
import Derived.WalkKit
import Derived.ProofKit
import Derived.OpenShut
import Derived.ShutString
import Derived.ChangeOld
import Derived.Below
import Derived.SizedLaws
set_option linter.all false
namespace Go.Proofs.Ytalmhjlcjcnidaa.fnUndo
open Go.ChangeShapes Go.WideShapes Go.ChangeAt Go.RowKit
open Go.Proofs.Ytalmhjlcjcnidaa.Ev
set_option linter.unusedVariables false
theorem pure_law (x0:Kd.T ((.sl (.int .u8))))(w0:Wf bytesOf ((.sl (.int .u8))) x0):∃n,B75.run n (x0,())=some true:=by
  obtain⟨N,h⟩:=C7a
  exact⟨N,h N (Nat.le_refl N) x0 (C7w C7h x0 w0)⟩
theorem own:ownKnob Try.prog.godebug=none:=by kernel_rfl
theorem laidOut:laidOutB Try.prog=true:=by kernel_rfl
set_option maxRecDepth 100000 in
theorem lifted (os:Os)(started:os.Started)(H:Type)(enc:TypeId×Value→H):
    ReturnsInHanded {} Try.checked os 3 .any (Rows.fnUndoSpec.pre6 enc Try.prog Try.f3 Rows.fnUndoRow.domain false) (Rows.fnUndoSpec.post enc Try.prog Try.f3 false true false false):=by
  refine returnsInHanded_of_change_sized (C:=Try.checked) own started (by kernel_rfl) Try.func3
    (ChangeSpec.witness6 (enc:=enc) (C:=Try.checked) false ⟨#[],#[.slice none 0 0],[]⟩ 8 (by kernel_rfl) (by kernel_rfl) (by kernel_rfl) (by kernel_rfl)) ?_
  intro W base args ds gs before hval0 hW hcnd hsz0 _
  have hsz:(DataW.weightsEach Try.prog (Try.f3.params.toList++Rows.fnUndoSpec.plain.varTypes Try.prog) (ds++gs)).all (·≤reachBytes)=true:=hsz0
  have hval:∀(j:Nat) t v,Try.f3.params[j]?=some t→args[j]?=some v→Value.okWide Try.prog W .any base t v:=hval0
  have hW':=hW
  obtain⟨p,q,hA0,hV,rfl,hfz,hnd⟩:=hW
  have hA:DataW.TrodAll enc Try.prog W 0 (fun _=>true) true Try.f3.params.toList args.toList ds p:=hA0
  rw[Try.params3]at hA hval hsz
  obtain⟨v0,vs0,d0,ds0,p0,q0,hargs,rfl,rfl,h0,r0⟩:=trodAll_cons hA
  obtain⟨rfl,rfl,rfl⟩:=trodAll_nil r0
  obtain rfl:args=#[v0]:=by cases args;simp_all
  obtain⟨rfl,rfl⟩:=trodVars_none hV
  have lt0:∀x∈p0,x.block<W.heap.size:=by obtain⟨m,hm⟩:=h0;exact DataW.trod_lt m _ _ _ hm
  obtain⟨x0,w0,s0⟩:=B13 (n:=12) (B:=bytesOf) (f:=(.sl (.int .u8))) (by kernel_rfl) h0 (fun k hk=>of_decide_eq_true (List.all_eq_true.mp hsz k (DataW.weights_mem_each (j:=0) rfl rfl k hk))) (hval 0 22 v0 rfl rfl)
  clear hA0 hval0 hsz0 hsz
  obtain⟨n,hn⟩:=pure_law x0 w0
  have hcall:N0 Try.prog [] false 3 (B75.args.to (x0,())) (.v (.one (.bool true))):=C80 n (x0,()) true hn
  refine(B17 (w:=W) (args:=#[v0]) hcall (s0 (rfl:H5 _ _ _ _ _ [] []))).mono fun e W' ⟨he,bel⟩=>?_
  subst he
  exact⟨_,rfl,_,_,_,[],_,[],hW',trodAll_mk1 (shut_bool Try.underlying4 _),(trodAll_cons_mk (Below.trod laidOut (by kernel_rfl) (of_decide_eq_true (by kernel_rfl)) h0 bel lt0) trodAll_mk0),rfl,bel.frame _,fun h=>by cases h⟩
theorem over:Rows.fnUndoRow.holds Try.pinned (OpenSpec.ofChange Rows.fnUndoSpec):=
  OpenClaim.holds_of_wide 3 Try.f3 rfl rfl rfl rfl rfl rfl rfl ⟨rfl,rfl,rfl,rfl,rfl⟩ rfl rfl rfl rfl rfl (by kernel_rfl) Try.func3 (by kernel_rfl)
    (of_decide_eq_true (by kernel_rfl)) (by unfold Func.isWrapper;first|(rw[if_pos (by decide+kernel)];kernel_rfl)|(rw[if_neg (by decide+kernel)];exact⟨rfl,rfl⟩))
    (fun os started H enc _=>lifted os started H enc)
theorem proved:Rows.FnUndoSaid:=over
end Go.Proofs.Ytalmhjlcjcnidaa.fnUndo
namespace Go.Proofs.Ytalmhjlcjcnidaa
/-- The row,under a short name,for the claim. -/
theorem fnUndo_holds:Rows.FnUndoSaid:=fnUndo.proved
end Go.Proofs.Ytalmhjlcjcnidaa

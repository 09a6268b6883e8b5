/-
  No cell of these rows narrows 'for every input' (looked for: loops, veiled, ifaces, maps, wideKeys, modest, calm, conditions, laid).
  DERIVED. THE GIVEN ROWS OF THIS SEAT. 7 by the template 'for every input the law returns true; each argument reads behind the call as it read before'; 0 by the template 'total and deterministic' (their statements: YtjopjjmhpadncaaTotals.lean).
  GIVEN WITH THE SEED: the statements are not yours to turn. If you find one false, say at which input.
  Laid BY PROGRAM, IN A SANDBOX (cutbox-rows.mjs): the forced cells as the released guide's own fill.sh prints them over the translation 9a1ff8ac69193fb3… (all of the seat's roots in one cut). By AI agents, Wed Nov 11 2026. No macro, syntax, notation, axiom, sorry.
-/
import Derived.Test.YtjopjjmhpadncaaChecked
import GoSem.Claim
import GoSem.ClaimJoined
import GoSem.ClaimMapViews
import Derived.JoinedTies
import Derived.KernelRfl
namespace Go.Proofs.Ytjopjjmhpadncaa
/- THE CELL 'sum', in the pinned program and in every row, IS THE sha256 OF THE DUMP (.gsa) THAT YtjopjjmhpadncaaProg.lean LOADS. Nothing in Lean hashes anything: it is a label: what it is worth is what the hold of that sum in a sandbox is worth. -/
noncomputable def Try.pinned : Pinned := { name := "ytjopjjmhpadncaa", sum := "9a1ff8ac69193fb3ae20aca611625a7d5eec7d74363049f8a8c3776245216d12", checked := Try.checked }
namespace Rows
def none {H : Type} : Left H := { results := [], args := [] }

/-- 'laws.FnUndo': WHATEVER THE INPUT: true; the input reads as it did. -/
def fnUndoSpec : ChangeSpec := { name := "fnUndo", fn := fun _ => fun
  | [d] => { results := [.lit (.bool true)], args := [d] }
  | _ => none }
def fnUndoRow : OpenClaim := { program := "ytjopjjmhpadncaa", sum := "9a1ff8ac69193fb3ae20aca611625a7d5eec7d74363049f8a8c3776245216d12", func := "loop.example/g00462/laws.FnUndo", spec := "fnUndo", inPlace := ["slices.overlaps[loop.example/g00462/impl.Row]"], unfollowed := true, recurses := true, apart := false }
def FnUndoSaid : Prop := fnUndoRow.holds Try.pinned (OpenSpec.ofChange fnUndoSpec)

/-- ITS FALSE NEIGHBOUR: 'it returns false'. Refute it at one input. -/
def fnUndoWrong : ChangeSpec := { name := "fnUndo", fn := fun _ => fun
  | [d] => { results := [.lit (.bool false)], args := [d] }
  | _ => none }
def FnUndoWrongFalsely : Prop := fnUndoRow.holds Try.pinned (OpenSpec.ofChange fnUndoWrong)

/-- 'laws.FnExactRowOut': WHATEVER THE INPUT: true; the input reads as it did. -/
def fnExactRowOutSpec : ChangeSpec := { name := "fnExactRowOut", fn := fun _ => fun
  | [d1, d2, d3] => { results := [.lit (.bool true)], args := [d1, d2, d3] }
  | _ => none }
def fnExactRowOutRow : OpenClaim := { program := "ytjopjjmhpadncaa", sum := "9a1ff8ac69193fb3ae20aca611625a7d5eec7d74363049f8a8c3776245216d12", func := "loop.example/g00462/laws.FnExactRowOut", spec := "fnExactRowOut", unfollowed := true, recurses := true, apart := false }
def FnExactRowOutSaid : Prop := fnExactRowOutRow.holds Try.pinned (OpenSpec.ofChange fnExactRowOutSpec)

/-- ITS FALSE NEIGHBOUR: 'it returns false'. Refute it at one input. -/
def fnExactRowOutWrong : ChangeSpec := { name := "fnExactRowOut", fn := fun _ => fun
  | [d1, d2, d3] => { results := [.lit (.bool false)], args := [d1, d2, d3] }
  | _ => none }
def FnExactRowOutWrongFalsely : Prop := fnExactRowOutRow.holds Try.pinned (OpenSpec.ofChange fnExactRowOutWrong)

/-- 'laws.FnExactRowPut': WHATEVER THE INPUT: true; the input reads as it did. -/
def fnExactRowPutSpec : ChangeSpec := { name := "fnExactRowPut", fn := fun _ => fun
  | [d1, d2, d3] => { results := [.lit (.bool true)], args := [d1, d2, d3] }
  | _ => none }
def fnExactRowPutRow : OpenClaim := { program := "ytjopjjmhpadncaa", sum := "9a1ff8ac69193fb3ae20aca611625a7d5eec7d74363049f8a8c3776245216d12", func := "loop.example/g00462/laws.FnExactRowPut", spec := "fnExactRowPut", inPlace := ["slices.overlaps[loop.example/g00462/impl.Row]"], unfollowed := true, recurses := true, apart := false }
def FnExactRowPutSaid : Prop := fnExactRowPutRow.holds Try.pinned (OpenSpec.ofChange fnExactRowPutSpec)

/-- ITS FALSE NEIGHBOUR: 'it returns false'. Refute it at one input. -/
def fnExactRowPutWrong : ChangeSpec := { name := "fnExactRowPut", fn := fun _ => fun
  | [d1, d2, d3] => { results := [.lit (.bool false)], args := [d1, d2, d3] }
  | _ => none }
def FnExactRowPutWrongFalsely : Prop := fnExactRowPutRow.holds Try.pinned (OpenSpec.ofChange fnExactRowPutWrong)

/-- 'laws.FnExactRowSet': WHATEVER THE INPUT: true; the input reads as it did. -/
def fnExactRowSetSpec : ChangeSpec := { name := "fnExactRowSet", fn := fun _ => fun
  | [d1, d2, d3, d4] => { results := [.lit (.bool true)], args := [d1, d2, d3, d4] }
  | _ => none }
def fnExactRowSetRow : OpenClaim := { program := "ytjopjjmhpadncaa", sum := "9a1ff8ac69193fb3ae20aca611625a7d5eec7d74363049f8a8c3776245216d12", func := "loop.example/g00462/laws.FnExactRowSet", spec := "fnExactRowSet", inPlace := ["slices.overlaps[loop.example/g00462/impl.Row]"], unfollowed := true, recurses := true, apart := false }
def FnExactRowSetSaid : Prop := fnExactRowSetRow.holds Try.pinned (OpenSpec.ofChange fnExactRowSetSpec)

/-- ITS FALSE NEIGHBOUR: 'it returns false'. Refute it at one input. -/
def fnExactRowSetWrong : ChangeSpec := { name := "fnExactRowSet", fn := fun _ => fun
  | [d1, d2, d3, d4] => { results := [.lit (.bool false)], args := [d1, d2, d3, d4] }
  | _ => none }
def FnExactRowSetWrongFalsely : Prop := fnExactRowSetRow.holds Try.pinned (OpenSpec.ofChange fnExactRowSetWrong)

/-- 'laws.FnExactRowsDdl': WHATEVER THE INPUT: true; the input reads as it did. -/
def fnExactRowsDdlSpec : ChangeSpec := { name := "fnExactRowsDdl", fn := fun _ => fun
  | [d1, d2, d3] => { results := [.lit (.bool true)], args := [d1, d2, d3] }
  | _ => none }
def fnExactRowsDdlRow : OpenClaim := { program := "ytjopjjmhpadncaa", sum := "9a1ff8ac69193fb3ae20aca611625a7d5eec7d74363049f8a8c3776245216d12", func := "loop.example/g00462/laws.FnExactRowsDdl", spec := "fnExactRowsDdl", unfollowed := true, recurses := true, apart := false }
def FnExactRowsDdlSaid : Prop := fnExactRowsDdlRow.holds Try.pinned (OpenSpec.ofChange fnExactRowsDdlSpec)

/-- ITS FALSE NEIGHBOUR: 'it returns false'. Refute it at one input. -/
def fnExactRowsDdlWrong : ChangeSpec := { name := "fnExactRowsDdl", fn := fun _ => fun
  | [d1, d2, d3] => { results := [.lit (.bool false)], args := [d1, d2, d3] }
  | _ => none }
def FnExactRowsDdlWrongFalsely : Prop := fnExactRowsDdlRow.holds Try.pinned (OpenSpec.ofChange fnExactRowsDdlWrong)

/-- 'laws.FnExactDdlApply': WHATEVER THE INPUT: true; the input reads as it did. -/
def fnExactDdlApplySpec : ChangeSpec := { name := "fnExactDdlApply", fn := fun _ => fun
  | [d1, d2] => { results := [.lit (.bool true)], args := [d1, d2] }
  | _ => none }
def fnExactDdlApplyRow : OpenClaim := { program := "ytjopjjmhpadncaa", sum := "9a1ff8ac69193fb3ae20aca611625a7d5eec7d74363049f8a8c3776245216d12", func := "loop.example/g00462/laws.FnExactDdlApply", spec := "fnExactDdlApply", inPlace := ["slices.overlaps[loop.example/g00462/impl.Table]"], unfollowed := true, recurses := true, apart := false }
def FnExactDdlApplySaid : Prop := fnExactDdlApplyRow.holds Try.pinned (OpenSpec.ofChange fnExactDdlApplySpec)

/-- ITS FALSE NEIGHBOUR: 'it returns false'. Refute it at one input. -/
def fnExactDdlApplyWrong : ChangeSpec := { name := "fnExactDdlApply", fn := fun _ => fun
  | [d1, d2] => { results := [.lit (.bool false)], args := [d1, d2] }
  | _ => none }
def FnExactDdlApplyWrongFalsely : Prop := fnExactDdlApplyRow.holds Try.pinned (OpenSpec.ofChange fnExactDdlApplyWrong)

/-- 'laws.FnDdl': WHATEVER THE INPUT: true; the input reads as it did. -/
def fnDdlSpec : ChangeSpec := { name := "fnDdl", fn := fun _ => fun
  | [d] => { results := [.lit (.bool true)], args := [d] }
  | _ => none }
def fnDdlRow : OpenClaim := { program := "ytjopjjmhpadncaa", sum := "9a1ff8ac69193fb3ae20aca611625a7d5eec7d74363049f8a8c3776245216d12", func := "loop.example/g00462/laws.FnDdl", spec := "fnDdl", inPlace := ["slices.overlaps[loop.example/g00462/impl.Table]"], unfollowed := true, recurses := true, apart := false }
def FnDdlSaid : Prop := fnDdlRow.holds Try.pinned (OpenSpec.ofChange fnDdlSpec)

/-- ITS FALSE NEIGHBOUR: 'it returns false'. Refute it at one input. -/
def fnDdlWrong : ChangeSpec := { name := "fnDdl", fn := fun _ => fun
  | [d] => { results := [.lit (.bool false)], args := [d] }
  | _ => none }
def FnDdlWrongFalsely : Prop := fnDdlRow.holds Try.pinned (OpenSpec.ofChange fnDdlWrong)

/- THE SECOND FORM. 'bulk': how many values and letters a reading holds, each counted each time it is reached (what is shared counts as often as it is met; a slice's spare places count too). A statement '..UptoSaid' is the law's where the arguments, and the package variables that the reading takes, are together of bulk at most 1048576: NARROWER than '..Said'. Prove '..Said' where nothing that the law and all that it calls make is longer than what came in: it says more and counts as full. Else prove '..UptoSaid'. A law counts once. -/
mutual
def uptoBulk {H : Type} : DataW H → Nat
  | .lit (.string bytes) => bytes.length + 1
  | .lit _ => 1
  | .nil => 1
  | .ptr d => uptoBulk d + 1
  | .slice elems spare => uptoBulkAll elems + uptoBulkAll spare + 1
  | .agg parts => uptoBulkAll parts + 1
  | .iface _ d => uptoBulk d + 1
  | .map entries => uptoBulkEntries entries + 1
  | .held _ => 1
def uptoBulkAll {H : Type} : List (DataW H) → Nat
  | [] => 0
  | d :: r => uptoBulk d + uptoBulkAll r
def uptoBulkEntries {H : Type} : List (Lit × DataW H) → Nat
  | [] => 0
  | x :: r => uptoBulkEntry x + uptoBulkEntries r
def uptoBulkEntry {H : Type} : Lit × DataW H → Nat
  | (.string bytes, d) => bytes.length + uptoBulk d + 1
  | (_, d) => uptoBulk d + 1
 end
def uptoSmall : (H : Type) → List (DataW H) → Bool := fun _ ds => decide (uptoBulkAll ds ≤ 1048576)
def OpenSpec.upto (s : _root_.Go.ChangeSpec) : _root_.Go.OpenSpec := { _root_.Go.OpenSpec.ofChange s with cond := some uptoSmall }

/-- 'laws.FnUndo', WHERE WHAT IT READS IS OF BULK AT MOST 1048576: true; the input reads as it did. -/
def fnUndoUptoRow : OpenClaim := { program := "ytjopjjmhpadncaa", sum := "9a1ff8ac69193fb3ae20aca611625a7d5eec7d74363049f8a8c3776245216d12", func := "loop.example/g00462/laws.FnUndo", spec := "fnUndo", inPlace := ["slices.overlaps[loop.example/g00462/impl.Row]"], unfollowed := true, recurses := true, apart := false, narrowed := true }
def FnUndoUptoSaid : Prop := fnUndoUptoRow.holds Try.pinned (OpenSpec.upto fnUndoSpec)

/-- 'laws.FnExactRowOut', WHERE WHAT IT READS IS OF BULK AT MOST 1048576: true; the input reads as it did. -/
def fnExactRowOutUptoRow : OpenClaim := { program := "ytjopjjmhpadncaa", sum := "9a1ff8ac69193fb3ae20aca611625a7d5eec7d74363049f8a8c3776245216d12", func := "loop.example/g00462/laws.FnExactRowOut", spec := "fnExactRowOut", unfollowed := true, recurses := true, apart := false, narrowed := true }
def FnExactRowOutUptoSaid : Prop := fnExactRowOutUptoRow.holds Try.pinned (OpenSpec.upto fnExactRowOutSpec)

/-- 'laws.FnExactRowPut', WHERE WHAT IT READS IS OF BULK AT MOST 1048576: true; the input reads as it did. -/
def fnExactRowPutUptoRow : OpenClaim := { program := "ytjopjjmhpadncaa", sum := "9a1ff8ac69193fb3ae20aca611625a7d5eec7d74363049f8a8c3776245216d12", func := "loop.example/g00462/laws.FnExactRowPut", spec := "fnExactRowPut", inPlace := ["slices.overlaps[loop.example/g00462/impl.Row]"], unfollowed := true, recurses := true, apart := false, narrowed := true }
def FnExactRowPutUptoSaid : Prop := fnExactRowPutUptoRow.holds Try.pinned (OpenSpec.upto fnExactRowPutSpec)

/-- 'laws.FnExactRowSet', WHERE WHAT IT READS IS OF BULK AT MOST 1048576: true; the input reads as it did. -/
def fnExactRowSetUptoRow : OpenClaim := { program := "ytjopjjmhpadncaa", sum := "9a1ff8ac69193fb3ae20aca611625a7d5eec7d74363049f8a8c3776245216d12", func := "loop.example/g00462/laws.FnExactRowSet", spec := "fnExactRowSet", inPlace := ["slices.overlaps[loop.example/g00462/impl.Row]"], unfollowed := true, recurses := true, apart := false, narrowed := true }
def FnExactRowSetUptoSaid : Prop := fnExactRowSetUptoRow.holds Try.pinned (OpenSpec.upto fnExactRowSetSpec)

/-- 'laws.FnExactRowsDdl', WHERE WHAT IT READS IS OF BULK AT MOST 1048576: true; the input reads as it did. -/
def fnExactRowsDdlUptoRow : OpenClaim := { program := "ytjopjjmhpadncaa", sum := "9a1ff8ac69193fb3ae20aca611625a7d5eec7d74363049f8a8c3776245216d12", func := "loop.example/g00462/laws.FnExactRowsDdl", spec := "fnExactRowsDdl", unfollowed := true, recurses := true, apart := false, narrowed := true }
def FnExactRowsDdlUptoSaid : Prop := fnExactRowsDdlUptoRow.holds Try.pinned (OpenSpec.upto fnExactRowsDdlSpec)

/-- 'laws.FnExactDdlApply', WHERE WHAT IT READS IS OF BULK AT MOST 1048576: true; the input reads as it did. -/
def fnExactDdlApplyUptoRow : OpenClaim := { program := "ytjopjjmhpadncaa", sum := "9a1ff8ac69193fb3ae20aca611625a7d5eec7d74363049f8a8c3776245216d12", func := "loop.example/g00462/laws.FnExactDdlApply", spec := "fnExactDdlApply", inPlace := ["slices.overlaps[loop.example/g00462/impl.Table]"], unfollowed := true, recurses := true, apart := false, narrowed := true }
def FnExactDdlApplyUptoSaid : Prop := fnExactDdlApplyUptoRow.holds Try.pinned (OpenSpec.upto fnExactDdlApplySpec)

/-- 'laws.FnDdl', WHERE WHAT IT READS IS OF BULK AT MOST 1048576: true; the input reads as it did. -/
def fnDdlUptoRow : OpenClaim := { program := "ytjopjjmhpadncaa", sum := "9a1ff8ac69193fb3ae20aca611625a7d5eec7d74363049f8a8c3776245216d12", func := "loop.example/g00462/laws.FnDdl", spec := "fnDdl", inPlace := ["slices.overlaps[loop.example/g00462/impl.Table]"], unfollowed := true, recurses := true, apart := false, narrowed := true }
def FnDdlUptoSaid : Prop := fnDdlUptoRow.holds Try.pinned (OpenSpec.upto fnDdlSpec)

end Rows
end Go.Proofs.Ytjopjjmhpadncaa

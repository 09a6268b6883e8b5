/-
  No cell of these rows narrows 'for every input' (looked for: loops, veiled, ifaces, maps, wideKeys, modest, calm, conditions, laid).
  DERIVED. THE GIVEN ROWS OF THIS SEAT. 12 by the template 'for every input the law returns true; each argument reads behind the call as it read before'; 0 by the template 'total and deterministic' (their statements: YtfgdkefcobipcaaTotals.lean).
  GIVEN WITH THE SEED: the statements are not yours to turn. If you find one false, say at which input.
  Laid BY PROGRAM, IN A SANDBOX (cutbox-rows.mjs): the forced cells as the released guide's own fill.sh prints them over the translation 2f23a7f54614d6c8… (all of the seat's roots in one cut). By AI agents, Wed Nov 11 2026. No macro, syntax, notation, axiom, sorry.
-/
import Derived.Test.YtfgdkefcobipcaaChecked
import GoSem.Claim
import GoSem.ClaimJoined
import GoSem.ClaimMapViews
import Derived.JoinedTies
import Derived.KernelRfl
namespace Go.Proofs.Ytfgdkefcobipcaa
/- THE CELL 'sum', in the pinned program and in every row, IS THE sha256 OF THE DUMP (.gsa) THAT YtfgdkefcobipcaaProg.lean LOADS. Nothing in Lean hashes anything: it is a label: what it is worth is what the hold of that sum in a sandbox is worth. -/
noncomputable def Try.pinned : Pinned := { name := "ytfgdkefcobipcaa", sum := "2f23a7f54614d6c8a4320758abf5316b4267180e675320ff70a95cec6ba8a6ac", checked := Try.checked }
namespace Rows
def none {H : Type} : Left H := { results := [], args := [] }

/-- 'laws.FnExactRowAt': WHATEVER THE INPUT: true; the input reads as it did. -/
def fnExactRowAtSpec : ChangeSpec := { name := "fnExactRowAt", fn := fun _ => fun
  | [d1, d2, d3] => { results := [.lit (.bool true)], args := [d1, d2, d3] }
  | _ => none }
def fnExactRowAtRow : OpenClaim := { program := "ytfgdkefcobipcaa", sum := "2f23a7f54614d6c8a4320758abf5316b4267180e675320ff70a95cec6ba8a6ac", func := "loop.example/g00462/laws.FnExactRowAt", spec := "fnExactRowAt", unfollowed := true, recurses := true, apart := false }
def FnExactRowAtSaid : Prop := fnExactRowAtRow.holds Try.pinned (OpenSpec.ofChange fnExactRowAtSpec)

/-- ITS FALSE NEIGHBOUR: 'it returns false'. Refute it at one input. -/
def fnExactRowAtWrong : ChangeSpec := { name := "fnExactRowAt", fn := fun _ => fun
  | [d1, d2, d3] => { results := [.lit (.bool false)], args := [d1, d2, d3] }
  | _ => none }
def FnExactRowAtWrongFalsely : Prop := fnExactRowAtRow.holds Try.pinned (OpenSpec.ofChange fnExactRowAtWrong)

/-- 'laws.FnExactOpen': WHATEVER THE INPUT: true; the input reads as it did. -/
def fnExactOpenSpec : ChangeSpec := { name := "fnExactOpen", fn := fun _ => fun
  | [d] => { results := [.lit (.bool true)], args := [d] }
  | _ => none }
def fnExactOpenRow : OpenClaim := { program := "ytfgdkefcobipcaa", sum := "2f23a7f54614d6c8a4320758abf5316b4267180e675320ff70a95cec6ba8a6ac", func := "loop.example/g00462/laws.FnExactOpen", spec := "fnExactOpen", unfollowed := true, recurses := true, apart := false }
def FnExactOpenSaid : Prop := fnExactOpenRow.holds Try.pinned (OpenSpec.ofChange fnExactOpenSpec)

/-- ITS FALSE NEIGHBOUR: 'it returns false'. Refute it at one input. -/
def fnExactOpenWrong : ChangeSpec := { name := "fnExactOpen", fn := fun _ => fun
  | [d] => { results := [.lit (.bool false)], args := [d] }
  | _ => none }
def FnExactOpenWrongFalsely : Prop := fnExactOpenRow.holds Try.pinned (OpenSpec.ofChange fnExactOpenWrong)

/-- 'laws.FnExactStmtOk': WHATEVER THE INPUT: true; the input reads as it did. -/
def fnExactStmtOkSpec : ChangeSpec := { name := "fnExactStmtOk", fn := fun _ => fun
  | [d] => { results := [.lit (.bool true)], args := [d] }
  | _ => none }
def fnExactStmtOkRow : OpenClaim := { program := "ytfgdkefcobipcaa", sum := "2f23a7f54614d6c8a4320758abf5316b4267180e675320ff70a95cec6ba8a6ac", func := "loop.example/g00462/laws.FnExactStmtOk", spec := "fnExactStmtOk", unfollowed := true, recurses := true, apart := false }
def FnExactStmtOkSaid : Prop := fnExactStmtOkRow.holds Try.pinned (OpenSpec.ofChange fnExactStmtOkSpec)

/-- ITS FALSE NEIGHBOUR: 'it returns false'. Refute it at one input. -/
def fnExactStmtOkWrong : ChangeSpec := { name := "fnExactStmtOk", fn := fun _ => fun
  | [d] => { results := [.lit (.bool false)], args := [d] }
  | _ => none }
def FnExactStmtOkWrongFalsely : Prop := fnExactStmtOkRow.holds Try.pinned (OpenSpec.ofChange fnExactStmtOkWrong)

/-- 'laws.FnExactDdlText': WHATEVER THE INPUT: true; the input reads as it did. -/
def fnExactDdlTextSpec : ChangeSpec := { name := "fnExactDdlText", fn := fun _ => fun
  | [d] => { results := [.lit (.bool true)], args := [d] }
  | _ => none }
def fnExactDdlTextRow : OpenClaim := { program := "ytfgdkefcobipcaa", sum := "2f23a7f54614d6c8a4320758abf5316b4267180e675320ff70a95cec6ba8a6ac", func := "loop.example/g00462/laws.FnExactDdlText", spec := "fnExactDdlText", unfollowed := true, recurses := true, apart := false }
def FnExactDdlTextSaid : Prop := fnExactDdlTextRow.holds Try.pinned (OpenSpec.ofChange fnExactDdlTextSpec)

/-- ITS FALSE NEIGHBOUR: 'it returns false'. Refute it at one input. -/
def fnExactDdlTextWrong : ChangeSpec := { name := "fnExactDdlText", fn := fun _ => fun
  | [d] => { results := [.lit (.bool false)], args := [d] }
  | _ => none }
def FnExactDdlTextWrongFalsely : Prop := fnExactDdlTextRow.holds Try.pinned (OpenSpec.ofChange fnExactDdlTextWrong)

/-- 'laws.FnExactDbOk': WHATEVER THE INPUT: true; the input reads as it did. -/
def fnExactDbOkSpec : ChangeSpec := { name := "fnExactDbOk", fn := fun _ => fun
  | [d] => { results := [.lit (.bool true)], args := [d] }
  | _ => none }
def fnExactDbOkRow : OpenClaim := { program := "ytfgdkefcobipcaa", sum := "2f23a7f54614d6c8a4320758abf5316b4267180e675320ff70a95cec6ba8a6ac", func := "loop.example/g00462/laws.FnExactDbOk", spec := "fnExactDbOk", unfollowed := true, recurses := true, apart := false }
def FnExactDbOkSaid : Prop := fnExactDbOkRow.holds Try.pinned (OpenSpec.ofChange fnExactDbOkSpec)

/-- ITS FALSE NEIGHBOUR: 'it returns false'. Refute it at one input. -/
def fnExactDbOkWrong : ChangeSpec := { name := "fnExactDbOk", fn := fun _ => fun
  | [d] => { results := [.lit (.bool false)], args := [d] }
  | _ => none }
def FnExactDbOkWrongFalsely : Prop := fnExactDbOkRow.holds Try.pinned (OpenSpec.ofChange fnExactDbOkWrong)

/-- 'laws.FnExactCount': WHATEVER THE INPUT: true; the input reads as it did. -/
def fnExactCountSpec : ChangeSpec := { name := "fnExactCount", fn := fun _ => fun
  | [d] => { results := [.lit (.bool true)], args := [d] }
  | _ => none }
def fnExactCountRow : OpenClaim := { program := "ytfgdkefcobipcaa", sum := "2f23a7f54614d6c8a4320758abf5316b4267180e675320ff70a95cec6ba8a6ac", func := "loop.example/g00462/laws.FnExactCount", spec := "fnExactCount", unfollowed := true, recurses := true, apart := false }
def FnExactCountSaid : Prop := fnExactCountRow.holds Try.pinned (OpenSpec.ofChange fnExactCountSpec)

/-- ITS FALSE NEIGHBOUR: 'it returns false'. Refute it at one input. -/
def fnExactCountWrong : ChangeSpec := { name := "fnExactCount", fn := fun _ => fun
  | [d] => { results := [.lit (.bool false)], args := [d] }
  | _ => none }
def FnExactCountWrongFalsely : Prop := fnExactCountRow.holds Try.pinned (OpenSpec.ofChange fnExactCountWrong)

/-- 'laws.FnExactRowOut': WHATEVER THE INPUT: true; the input reads as it did. -/
def fnExactRowOutSpec : ChangeSpec := { name := "fnExactRowOut", fn := fun _ => fun
  | [d1, d2, d3] => { results := [.lit (.bool true)], args := [d1, d2, d3] }
  | _ => none }
def fnExactRowOutRow : OpenClaim := { program := "ytfgdkefcobipcaa", sum := "2f23a7f54614d6c8a4320758abf5316b4267180e675320ff70a95cec6ba8a6ac", func := "loop.example/g00462/laws.FnExactRowOut", spec := "fnExactRowOut", unfollowed := true, recurses := true, apart := false }
def FnExactRowOutSaid : Prop := fnExactRowOutRow.holds Try.pinned (OpenSpec.ofChange fnExactRowOutSpec)

/-- ITS FALSE NEIGHBOUR: 'it returns false'. Refute it at one input. -/
def fnExactRowOutWrong : ChangeSpec := { name := "fnExactRowOut", fn := fun _ => fun
  | [d1, d2, d3] => { results := [.lit (.bool false)], args := [d1, d2, d3] }
  | _ => none }
def FnExactRowOutWrongFalsely : Prop := fnExactRowOutRow.holds Try.pinned (OpenSpec.ofChange fnExactRowOutWrong)

/-- 'laws.FnUndo': WHATEVER THE INPUT: true; the input reads as it did. -/
def fnUndoSpec : ChangeSpec := { name := "fnUndo", fn := fun _ => fun
  | [d] => { results := [.lit (.bool true)], args := [d] }
  | _ => none }
def fnUndoRow : OpenClaim := { program := "ytfgdkefcobipcaa", sum := "2f23a7f54614d6c8a4320758abf5316b4267180e675320ff70a95cec6ba8a6ac", func := "loop.example/g00462/laws.FnUndo", spec := "fnUndo", inPlace := ["slices.overlaps[loop.example/g00462/impl.Row]"], unfollowed := true, recurses := true, apart := false }
def FnUndoSaid : Prop := fnUndoRow.holds Try.pinned (OpenSpec.ofChange fnUndoSpec)

/-- ITS FALSE NEIGHBOUR: 'it returns false'. Refute it at one input. -/
def fnUndoWrong : ChangeSpec := { name := "fnUndo", fn := fun _ => fun
  | [d] => { results := [.lit (.bool false)], args := [d] }
  | _ => none }
def FnUndoWrongFalsely : Prop := fnUndoRow.holds Try.pinned (OpenSpec.ofChange fnUndoWrong)

/-- 'laws.FnExactStmtText': WHATEVER THE INPUT: true; the input reads as it did. -/
def fnExactStmtTextSpec : ChangeSpec := { name := "fnExactStmtText", fn := fun _ => fun
  | [d] => { results := [.lit (.bool true)], args := [d] }
  | _ => none }
def fnExactStmtTextRow : OpenClaim := { program := "ytfgdkefcobipcaa", sum := "2f23a7f54614d6c8a4320758abf5316b4267180e675320ff70a95cec6ba8a6ac", func := "loop.example/g00462/laws.FnExactStmtText", spec := "fnExactStmtText", unfollowed := true, recurses := true, apart := false }
def FnExactStmtTextSaid : Prop := fnExactStmtTextRow.holds Try.pinned (OpenSpec.ofChange fnExactStmtTextSpec)

/-- ITS FALSE NEIGHBOUR: 'it returns false'. Refute it at one input. -/
def fnExactStmtTextWrong : ChangeSpec := { name := "fnExactStmtText", fn := fun _ => fun
  | [d] => { results := [.lit (.bool false)], args := [d] }
  | _ => none }
def FnExactStmtTextWrongFalsely : Prop := fnExactStmtTextRow.holds Try.pinned (OpenSpec.ofChange fnExactStmtTextWrong)

/-- 'laws.FnExactRowPut': WHATEVER THE INPUT: true; the input reads as it did. -/
def fnExactRowPutSpec : ChangeSpec := { name := "fnExactRowPut", fn := fun _ => fun
  | [d1, d2, d3] => { results := [.lit (.bool true)], args := [d1, d2, d3] }
  | _ => none }
def fnExactRowPutRow : OpenClaim := { program := "ytfgdkefcobipcaa", sum := "2f23a7f54614d6c8a4320758abf5316b4267180e675320ff70a95cec6ba8a6ac", func := "loop.example/g00462/laws.FnExactRowPut", spec := "fnExactRowPut", inPlace := ["slices.overlaps[loop.example/g00462/impl.Row]"], unfollowed := true, recurses := true, apart := false }
def FnExactRowPutSaid : Prop := fnExactRowPutRow.holds Try.pinned (OpenSpec.ofChange fnExactRowPutSpec)

/-- ITS FALSE NEIGHBOUR: 'it returns false'. Refute it at one input. -/
def fnExactRowPutWrong : ChangeSpec := { name := "fnExactRowPut", fn := fun _ => fun
  | [d1, d2, d3] => { results := [.lit (.bool false)], args := [d1, d2, d3] }
  | _ => none }
def FnExactRowPutWrongFalsely : Prop := fnExactRowPutRow.holds Try.pinned (OpenSpec.ofChange fnExactRowPutWrong)

/-- 'laws.FnExactStmtBytes': WHATEVER THE INPUT: true; the input reads as it did. -/
def fnExactStmtBytesSpec : ChangeSpec := { name := "fnExactStmtBytes", fn := fun _ => fun
  | [d] => { results := [.lit (.bool true)], args := [d] }
  | _ => none }
def fnExactStmtBytesRow : OpenClaim := { program := "ytfgdkefcobipcaa", sum := "2f23a7f54614d6c8a4320758abf5316b4267180e675320ff70a95cec6ba8a6ac", func := "loop.example/g00462/laws.FnExactStmtBytes", spec := "fnExactStmtBytes", unfollowed := true, recurses := true, apart := false }
def FnExactStmtBytesSaid : Prop := fnExactStmtBytesRow.holds Try.pinned (OpenSpec.ofChange fnExactStmtBytesSpec)

/-- ITS FALSE NEIGHBOUR: 'it returns false'. Refute it at one input. -/
def fnExactStmtBytesWrong : ChangeSpec := { name := "fnExactStmtBytes", fn := fun _ => fun
  | [d] => { results := [.lit (.bool false)], args := [d] }
  | _ => none }
def FnExactStmtBytesWrongFalsely : Prop := fnExactStmtBytesRow.holds Try.pinned (OpenSpec.ofChange fnExactStmtBytesWrong)

/-- 'laws.FnExactRowsOf': WHATEVER THE INPUT: true; the input reads as it did. -/
def fnExactRowsOfSpec : ChangeSpec := { name := "fnExactRowsOf", fn := fun _ => fun
  | [d1, d2] => { results := [.lit (.bool true)], args := [d1, d2] }
  | _ => none }
def fnExactRowsOfRow : OpenClaim := { program := "ytfgdkefcobipcaa", sum := "2f23a7f54614d6c8a4320758abf5316b4267180e675320ff70a95cec6ba8a6ac", func := "loop.example/g00462/laws.FnExactRowsOf", spec := "fnExactRowsOf", unfollowed := true, recurses := true, apart := false }
def FnExactRowsOfSaid : Prop := fnExactRowsOfRow.holds Try.pinned (OpenSpec.ofChange fnExactRowsOfSpec)

/-- ITS FALSE NEIGHBOUR: 'it returns false'. Refute it at one input. -/
def fnExactRowsOfWrong : ChangeSpec := { name := "fnExactRowsOf", fn := fun _ => fun
  | [d1, d2] => { results := [.lit (.bool false)], args := [d1, d2] }
  | _ => none }
def FnExactRowsOfWrongFalsely : Prop := fnExactRowsOfRow.holds Try.pinned (OpenSpec.ofChange fnExactRowsOfWrong)

/- THE SECOND FORM. 'bulk': how many values and letters a reading holds, each counted each time it is reached (what is shared counts as often as it is met; a slice's spare places count too). A statement '..UptoSaid' is the law's where the arguments, and the package variables that the reading takes, are together of bulk at most 1048576: NARROWER than '..Said'. Prove '..Said' where nothing that the law and all that it calls make is longer than what came in: it says more and counts as full. Else prove '..UptoSaid'. A law counts once. -/
mutual
def uptoBulk {H : Type} : DataW H → Nat
  | .lit (.string bytes) => bytes.length + 1
  | .lit _ => 1
  | .nil => 1
  | .ptr d => uptoBulk d + 1
  | .slice elems spare => uptoBulkAll elems + uptoBulkAll spare + 1
  | .agg parts => uptoBulkAll parts + 1
  | .iface _ d => uptoBulk d + 1
  | .map entries => uptoBulkEntries entries + 1
  | .held _ => 1
def uptoBulkAll {H : Type} : List (DataW H) → Nat
  | [] => 0
  | d :: r => uptoBulk d + uptoBulkAll r
def uptoBulkEntries {H : Type} : List (Lit × DataW H) → Nat
  | [] => 0
  | x :: r => uptoBulkEntry x + uptoBulkEntries r
def uptoBulkEntry {H : Type} : Lit × DataW H → Nat
  | (.string bytes, d) => bytes.length + uptoBulk d + 1
  | (_, d) => uptoBulk d + 1
 end
def uptoSmall : (H : Type) → List (DataW H) → Bool := fun _ ds => decide (uptoBulkAll ds ≤ 1048576)
def OpenSpec.upto (s : _root_.Go.ChangeSpec) : _root_.Go.OpenSpec := { _root_.Go.OpenSpec.ofChange s with cond := some uptoSmall }

/-- 'laws.FnExactRowAt', WHERE WHAT IT READS IS OF BULK AT MOST 1048576: true; the input reads as it did. -/
def fnExactRowAtUptoRow : OpenClaim := { program := "ytfgdkefcobipcaa", sum := "2f23a7f54614d6c8a4320758abf5316b4267180e675320ff70a95cec6ba8a6ac", func := "loop.example/g00462/laws.FnExactRowAt", spec := "fnExactRowAt", unfollowed := true, recurses := true, apart := false, narrowed := true }
def FnExactRowAtUptoSaid : Prop := fnExactRowAtUptoRow.holds Try.pinned (OpenSpec.upto fnExactRowAtSpec)

/-- 'laws.FnExactOpen', WHERE WHAT IT READS IS OF BULK AT MOST 1048576: true; the input reads as it did. -/
def fnExactOpenUptoRow : OpenClaim := { program := "ytfgdkefcobipcaa", sum := "2f23a7f54614d6c8a4320758abf5316b4267180e675320ff70a95cec6ba8a6ac", func := "loop.example/g00462/laws.FnExactOpen", spec := "fnExactOpen", unfollowed := true, recurses := true, apart := false, narrowed := true }
def FnExactOpenUptoSaid : Prop := fnExactOpenUptoRow.holds Try.pinned (OpenSpec.upto fnExactOpenSpec)

/-- 'laws.FnExactStmtOk', WHERE WHAT IT READS IS OF BULK AT MOST 1048576: true; the input reads as it did. -/
def fnExactStmtOkUptoRow : OpenClaim := { program := "ytfgdkefcobipcaa", sum := "2f23a7f54614d6c8a4320758abf5316b4267180e675320ff70a95cec6ba8a6ac", func := "loop.example/g00462/laws.FnExactStmtOk", spec := "fnExactStmtOk", unfollowed := true, recurses := true, apart := false, narrowed := true }
def FnExactStmtOkUptoSaid : Prop := fnExactStmtOkUptoRow.holds Try.pinned (OpenSpec.upto fnExactStmtOkSpec)

/-- 'laws.FnExactDdlText', WHERE WHAT IT READS IS OF BULK AT MOST 1048576: true; the input reads as it did. -/
def fnExactDdlTextUptoRow : OpenClaim := { program := "ytfgdkefcobipcaa", sum := "2f23a7f54614d6c8a4320758abf5316b4267180e675320ff70a95cec6ba8a6ac", func := "loop.example/g00462/laws.FnExactDdlText", spec := "fnExactDdlText", unfollowed := true, recurses := true, apart := false, narrowed := true }
def FnExactDdlTextUptoSaid : Prop := fnExactDdlTextUptoRow.holds Try.pinned (OpenSpec.upto fnExactDdlTextSpec)

/-- 'laws.FnExactDbOk', WHERE WHAT IT READS IS OF BULK AT MOST 1048576: true; the input reads as it did. -/
def fnExactDbOkUptoRow : OpenClaim := { program := "ytfgdkefcobipcaa", sum := "2f23a7f54614d6c8a4320758abf5316b4267180e675320ff70a95cec6ba8a6ac", func := "loop.example/g00462/laws.FnExactDbOk", spec := "fnExactDbOk", unfollowed := true, recurses := true, apart := false, narrowed := true }
def FnExactDbOkUptoSaid : Prop := fnExactDbOkUptoRow.holds Try.pinned (OpenSpec.upto fnExactDbOkSpec)

/-- 'laws.FnExactCount', WHERE WHAT IT READS IS OF BULK AT MOST 1048576: true; the input reads as it did. -/
def fnExactCountUptoRow : OpenClaim := { program := "ytfgdkefcobipcaa", sum := "2f23a7f54614d6c8a4320758abf5316b4267180e675320ff70a95cec6ba8a6ac", func := "loop.example/g00462/laws.FnExactCount", spec := "fnExactCount", unfollowed := true, recurses := true, apart := false, narrowed := true }
def FnExactCountUptoSaid : Prop := fnExactCountUptoRow.holds Try.pinned (OpenSpec.upto fnExactCountSpec)

/-- 'laws.FnExactRowOut', WHERE WHAT IT READS IS OF BULK AT MOST 1048576: true; the input reads as it did. -/
def fnExactRowOutUptoRow : OpenClaim := { program := "ytfgdkefcobipcaa", sum := "2f23a7f54614d6c8a4320758abf5316b4267180e675320ff70a95cec6ba8a6ac", func := "loop.example/g00462/laws.FnExactRowOut", spec := "fnExactRowOut", unfollowed := true, recurses := true, apart := false, narrowed := true }
def FnExactRowOutUptoSaid : Prop := fnExactRowOutUptoRow.holds Try.pinned (OpenSpec.upto fnExactRowOutSpec)

/-- 'laws.FnUndo', WHERE WHAT IT READS IS OF BULK AT MOST 1048576: true; the input reads as it did. -/
def fnUndoUptoRow : OpenClaim := { program := "ytfgdkefcobipcaa", sum := "2f23a7f54614d6c8a4320758abf5316b4267180e675320ff70a95cec6ba8a6ac", func := "loop.example/g00462/laws.FnUndo", spec := "fnUndo", inPlace := ["slices.overlaps[loop.example/g00462/impl.Row]"], unfollowed := true, recurses := true, apart := false, narrowed := true }
def FnUndoUptoSaid : Prop := fnUndoUptoRow.holds Try.pinned (OpenSpec.upto fnUndoSpec)

/-- 'laws.FnExactStmtText', WHERE WHAT IT READS IS OF BULK AT MOST 1048576: true; the input reads as it did. -/
def fnExactStmtTextUptoRow : OpenClaim := { program := "ytfgdkefcobipcaa", sum := "2f23a7f54614d6c8a4320758abf5316b4267180e675320ff70a95cec6ba8a6ac", func := "loop.example/g00462/laws.FnExactStmtText", spec := "fnExactStmtText", unfollowed := true, recurses := true, apart := false, narrowed := true }
def FnExactStmtTextUptoSaid : Prop := fnExactStmtTextUptoRow.holds Try.pinned (OpenSpec.upto fnExactStmtTextSpec)

/-- 'laws.FnExactRowPut', WHERE WHAT IT READS IS OF BULK AT MOST 1048576: true; the input reads as it did. -/
def fnExactRowPutUptoRow : OpenClaim := { program := "ytfgdkefcobipcaa", sum := "2f23a7f54614d6c8a4320758abf5316b4267180e675320ff70a95cec6ba8a6ac", func := "loop.example/g00462/laws.FnExactRowPut", spec := "fnExactRowPut", inPlace := ["slices.overlaps[loop.example/g00462/impl.Row]"], unfollowed := true, recurses := true, apart := false, narrowed := true }
def FnExactRowPutUptoSaid : Prop := fnExactRowPutUptoRow.holds Try.pinned (OpenSpec.upto fnExactRowPutSpec)

/-- 'laws.FnExactStmtBytes', WHERE WHAT IT READS IS OF BULK AT MOST 1048576: true; the input reads as it did. -/
def fnExactStmtBytesUptoRow : OpenClaim := { program := "ytfgdkefcobipcaa", sum := "2f23a7f54614d6c8a4320758abf5316b4267180e675320ff70a95cec6ba8a6ac", func := "loop.example/g00462/laws.FnExactStmtBytes", spec := "fnExactStmtBytes", unfollowed := true, recurses := true, apart := false, narrowed := true }
def FnExactStmtBytesUptoSaid : Prop := fnExactStmtBytesUptoRow.holds Try.pinned (OpenSpec.upto fnExactStmtBytesSpec)

/-- 'laws.FnExactRowsOf', WHERE WHAT IT READS IS OF BULK AT MOST 1048576: true; the input reads as it did. -/
def fnExactRowsOfUptoRow : OpenClaim := { program := "ytfgdkefcobipcaa", sum := "2f23a7f54614d6c8a4320758abf5316b4267180e675320ff70a95cec6ba8a6ac", func := "loop.example/g00462/laws.FnExactRowsOf", spec := "fnExactRowsOf", unfollowed := true, recurses := true, apart := false, narrowed := true }
def FnExactRowsOfUptoSaid : Prop := fnExactRowsOfUptoRow.holds Try.pinned (OpenSpec.upto fnExactRowsOfSpec)

end Rows
end Go.Proofs.Ytfgdkefcobipcaa

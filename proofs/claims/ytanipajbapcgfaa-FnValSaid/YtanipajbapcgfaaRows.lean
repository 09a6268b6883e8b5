/-
  No cell of these rows narrows 'for every input' (looked for: loops, veiled, ifaces, maps, wideKeys, modest, calm, conditions, laid).
  DERIVED. THE GIVEN ROWS OF THIS SEAT. 12 by the template 'for every input the law returns true; each argument reads behind the call as it read before'; 0 by the template 'total and deterministic' (their statements: YtanipajbapcgfaaTotals.lean).
  GIVEN WITH THE SEED: the statements are not yours to turn. If you find one false, say at which input.
  Laid BY PROGRAM, IN A SANDBOX (cutbox-rows.mjs): the forced cells as the released guide's own fill.sh prints them over the translation 33b95b66c159a83c… (all of the seat's roots in one cut). By AI agents, Wed Nov 11 2026. No macro, syntax, notation, axiom, sorry.
-/
import Derived.Test.YtanipajbapcgfaaChecked
import GoSem.Claim
import GoSem.ClaimJoined
import GoSem.ClaimMapViews
import Derived.JoinedTies
import Derived.KernelRfl
namespace Go.Proofs.Ytanipajbapcgfaa
/- THE CELL 'sum', in the pinned program and in every row, IS THE sha256 OF THE DUMP (.gsa) THAT YtanipajbapcgfaaProg.lean LOADS. Nothing in Lean hashes anything: it is a label: what it is worth is what the hold of that sum in a sandbox is worth. -/
noncomputable def Try.pinned : Pinned := { name := "ytanipajbapcgfaa", sum := "33b95b66c159a83c4f24cef03861e154eb76201fa2c314326dd3c24e133f4787", checked := Try.checked }
namespace Rows
def none {H : Type} : Left H := { results := [], args := [] }

/-- 'laws.FnExactWords': WHATEVER THE INPUT: true; the input reads as it did. -/
def fnExactWordsSpec : ChangeSpec := { name := "fnExactWords", fn := fun _ => fun
  | [d] => { results := [.lit (.bool true)], args := [d] }
  | _ => none }
def fnExactWordsRow : OpenClaim := { program := "ytanipajbapcgfaa", sum := "33b95b66c159a83c4f24cef03861e154eb76201fa2c314326dd3c24e133f4787", func := "loop.example/g00462/laws.FnExactWords", spec := "fnExactWords", apart := false }
def FnExactWordsSaid : Prop := fnExactWordsRow.holds Try.pinned (OpenSpec.ofChange fnExactWordsSpec)

/-- ITS FALSE NEIGHBOUR: 'it returns false'. Refute it at one input. -/
def fnExactWordsWrong : ChangeSpec := { name := "fnExactWords", fn := fun _ => fun
  | [d] => { results := [.lit (.bool false)], args := [d] }
  | _ => none }
def FnExactWordsWrongFalsely : Prop := fnExactWordsRow.holds Try.pinned (OpenSpec.ofChange fnExactWordsWrong)

/-- 'laws.FnExactWordBytes': WHATEVER THE INPUT: true; the input reads as it did. -/
def fnExactWordBytesSpec : ChangeSpec := { name := "fnExactWordBytes", fn := fun _ => fun
  | [d] => { results := [.lit (.bool true)], args := [d] }
  | _ => none }
def fnExactWordBytesRow : OpenClaim := { program := "ytanipajbapcgfaa", sum := "33b95b66c159a83c4f24cef03861e154eb76201fa2c314326dd3c24e133f4787", func := "loop.example/g00462/laws.FnExactWordBytes", spec := "fnExactWordBytes", apart := false }
def FnExactWordBytesSaid : Prop := fnExactWordBytesRow.holds Try.pinned (OpenSpec.ofChange fnExactWordBytesSpec)

/-- ITS FALSE NEIGHBOUR: 'it returns false'. Refute it at one input. -/
def fnExactWordBytesWrong : ChangeSpec := { name := "fnExactWordBytes", fn := fun _ => fun
  | [d] => { results := [.lit (.bool false)], args := [d] }
  | _ => none }
def FnExactWordBytesWrongFalsely : Prop := fnExactWordBytesRow.holds Try.pinned (OpenSpec.ofChange fnExactWordBytesWrong)

/-- 'laws.FnExactValBytes': WHATEVER THE INPUT: true; the input reads as it did. -/
def fnExactValBytesSpec : ChangeSpec := { name := "fnExactValBytes", fn := fun _ => fun
  | [d] => { results := [.lit (.bool true)], args := [d] }
  | _ => none }
def fnExactValBytesRow : OpenClaim := { program := "ytanipajbapcgfaa", sum := "33b95b66c159a83c4f24cef03861e154eb76201fa2c314326dd3c24e133f4787", func := "loop.example/g00462/laws.FnExactValBytes", spec := "fnExactValBytes", apart := false }
def FnExactValBytesSaid : Prop := fnExactValBytesRow.holds Try.pinned (OpenSpec.ofChange fnExactValBytesSpec)

/-- ITS FALSE NEIGHBOUR: 'it returns false'. Refute it at one input. -/
def fnExactValBytesWrong : ChangeSpec := { name := "fnExactValBytes", fn := fun _ => fun
  | [d] => { results := [.lit (.bool false)], args := [d] }
  | _ => none }
def FnExactValBytesWrongFalsely : Prop := fnExactValBytesRow.holds Try.pinned (OpenSpec.ofChange fnExactValBytesWrong)

/-- 'laws.FnExactRowBytes': WHATEVER THE INPUT: true; the input reads as it did. -/
def fnExactRowBytesSpec : ChangeSpec := { name := "fnExactRowBytes", fn := fun _ => fun
  | [d] => { results := [.lit (.bool true)], args := [d] }
  | _ => none }
def fnExactRowBytesRow : OpenClaim := { program := "ytanipajbapcgfaa", sum := "33b95b66c159a83c4f24cef03861e154eb76201fa2c314326dd3c24e133f4787", func := "loop.example/g00462/laws.FnExactRowBytes", spec := "fnExactRowBytes", apart := false }
def FnExactRowBytesSaid : Prop := fnExactRowBytesRow.holds Try.pinned (OpenSpec.ofChange fnExactRowBytesSpec)

/-- ITS FALSE NEIGHBOUR: 'it returns false'. Refute it at one input. -/
def fnExactRowBytesWrong : ChangeSpec := { name := "fnExactRowBytes", fn := fun _ => fun
  | [d] => { results := [.lit (.bool false)], args := [d] }
  | _ => none }
def FnExactRowBytesWrongFalsely : Prop := fnExactRowBytesRow.holds Try.pinned (OpenSpec.ofChange fnExactRowBytesWrong)

/-- 'laws.FnExactKeyOf': WHATEVER THE INPUT: true; the input reads as it did. -/
def fnExactKeyOfSpec : ChangeSpec := { name := "fnExactKeyOf", fn := fun _ => fun
  | [d1, d2] => { results := [.lit (.bool true)], args := [d1, d2] }
  | _ => none }
def fnExactKeyOfRow : OpenClaim := { program := "ytanipajbapcgfaa", sum := "33b95b66c159a83c4f24cef03861e154eb76201fa2c314326dd3c24e133f4787", func := "loop.example/g00462/laws.FnExactKeyOf", spec := "fnExactKeyOf", unfollowed := true, recurses := true, apart := false }
def FnExactKeyOfSaid : Prop := fnExactKeyOfRow.holds Try.pinned (OpenSpec.ofChange fnExactKeyOfSpec)

/-- ITS FALSE NEIGHBOUR: 'it returns false'. Refute it at one input. -/
def fnExactKeyOfWrong : ChangeSpec := { name := "fnExactKeyOf", fn := fun _ => fun
  | [d1, d2] => { results := [.lit (.bool false)], args := [d1, d2] }
  | _ => none }
def FnExactKeyOfWrongFalsely : Prop := fnExactKeyOfRow.holds Try.pinned (OpenSpec.ofChange fnExactKeyOfWrong)

/-- 'laws.FnExactTableOf': WHATEVER THE INPUT: true; the input reads as it did. -/
def fnExactTableOfSpec : ChangeSpec := { name := "fnExactTableOf", fn := fun _ => fun
  | [d1, d2] => { results := [.lit (.bool true)], args := [d1, d2] }
  | _ => none }
def fnExactTableOfRow : OpenClaim := { program := "ytanipajbapcgfaa", sum := "33b95b66c159a83c4f24cef03861e154eb76201fa2c314326dd3c24e133f4787", func := "loop.example/g00462/laws.FnExactTableOf", spec := "fnExactTableOf", unfollowed := true, recurses := true, apart := false }
def FnExactTableOfSaid : Prop := fnExactTableOfRow.holds Try.pinned (OpenSpec.ofChange fnExactTableOfSpec)

/-- ITS FALSE NEIGHBOUR: 'it returns false'. Refute it at one input. -/
def fnExactTableOfWrong : ChangeSpec := { name := "fnExactTableOf", fn := fun _ => fun
  | [d1, d2] => { results := [.lit (.bool false)], args := [d1, d2] }
  | _ => none }
def FnExactTableOfWrongFalsely : Prop := fnExactTableOfRow.holds Try.pinned (OpenSpec.ofChange fnExactTableOfWrong)

/-- 'laws.FnExactRowsOf': WHATEVER THE INPUT: true; the input reads as it did. -/
def fnExactRowsOfSpec : ChangeSpec := { name := "fnExactRowsOf", fn := fun _ => fun
  | [d1, d2] => { results := [.lit (.bool true)], args := [d1, d2] }
  | _ => none }
def fnExactRowsOfRow : OpenClaim := { program := "ytanipajbapcgfaa", sum := "33b95b66c159a83c4f24cef03861e154eb76201fa2c314326dd3c24e133f4787", func := "loop.example/g00462/laws.FnExactRowsOf", spec := "fnExactRowsOf", unfollowed := true, recurses := true, apart := false }
def FnExactRowsOfSaid : Prop := fnExactRowsOfRow.holds Try.pinned (OpenSpec.ofChange fnExactRowsOfSpec)

/-- ITS FALSE NEIGHBOUR: 'it returns false'. Refute it at one input. -/
def fnExactRowsOfWrong : ChangeSpec := { name := "fnExactRowsOf", fn := fun _ => fun
  | [d1, d2] => { results := [.lit (.bool false)], args := [d1, d2] }
  | _ => none }
def FnExactRowsOfWrongFalsely : Prop := fnExactRowsOfRow.holds Try.pinned (OpenSpec.ofChange fnExactRowsOfWrong)

/-- 'laws.FnNums': WHATEVER THE INPUT: true; the input reads as it did. -/
def fnNumsSpec : ChangeSpec := { name := "fnNums", fn := fun _ => fun
  | [d] => { results := [.lit (.bool true)], args := [d] }
  | _ => none }
def fnNumsRow : OpenClaim := { program := "ytanipajbapcgfaa", sum := "33b95b66c159a83c4f24cef03861e154eb76201fa2c314326dd3c24e133f4787", func := "loop.example/g00462/laws.FnNums", spec := "fnNums", recurses := true, apart := false }
def FnNumsSaid : Prop := fnNumsRow.holds Try.pinned (OpenSpec.ofChange fnNumsSpec)

/-- ITS FALSE NEIGHBOUR: 'it returns false'. Refute it at one input. -/
def fnNumsWrong : ChangeSpec := { name := "fnNums", fn := fun _ => fun
  | [d] => { results := [.lit (.bool false)], args := [d] }
  | _ => none }
def FnNumsWrongFalsely : Prop := fnNumsRow.holds Try.pinned (OpenSpec.ofChange fnNumsWrong)

/-- 'laws.FnCast': WHATEVER THE INPUT: true; the input reads as it did. -/
def fnCastSpec : ChangeSpec := { name := "fnCast", fn := fun _ => fun
  | [d] => { results := [.lit (.bool true)], args := [d] }
  | _ => none }
def fnCastRow : OpenClaim := { program := "ytanipajbapcgfaa", sum := "33b95b66c159a83c4f24cef03861e154eb76201fa2c314326dd3c24e133f4787", func := "loop.example/g00462/laws.FnCast", spec := "fnCast", recurses := true, apart := false }
def FnCastSaid : Prop := fnCastRow.holds Try.pinned (OpenSpec.ofChange fnCastSpec)

/-- ITS FALSE NEIGHBOUR: 'it returns false'. Refute it at one input. -/
def fnCastWrong : ChangeSpec := { name := "fnCast", fn := fun _ => fun
  | [d] => { results := [.lit (.bool false)], args := [d] }
  | _ => none }
def FnCastWrongFalsely : Prop := fnCastRow.holds Try.pinned (OpenSpec.ofChange fnCastWrong)

/-- 'laws.FnVal': WHATEVER THE INPUT: true; the input reads as it did. -/
def fnValSpec : ChangeSpec := { name := "fnVal", fn := fun _ => fun
  | [d] => { results := [.lit (.bool true)], args := [d] }
  | _ => none }
def fnValRow : OpenClaim := { program := "ytanipajbapcgfaa", sum := "33b95b66c159a83c4f24cef03861e154eb76201fa2c314326dd3c24e133f4787", func := "loop.example/g00462/laws.FnVal", spec := "fnVal", recurses := true, apart := false }
def FnValSaid : Prop := fnValRow.holds Try.pinned (OpenSpec.ofChange fnValSpec)

/-- ITS FALSE NEIGHBOUR: 'it returns false'. Refute it at one input. -/
def fnValWrong : ChangeSpec := { name := "fnVal", fn := fun _ => fun
  | [d] => { results := [.lit (.bool false)], args := [d] }
  | _ => none }
def FnValWrongFalsely : Prop := fnValRow.holds Try.pinned (OpenSpec.ofChange fnValWrong)

/-- 'laws.FnExactTextCol': WHATEVER THE INPUT: true; the input reads as it did. -/
def fnExactTextColSpec : ChangeSpec := { name := "fnExactTextCol", fn := fun _ => fun
  | [d] => { results := [.lit (.bool true)], args := [d] }
  | _ => none }
def fnExactTextColRow : OpenClaim := { program := "ytanipajbapcgfaa", sum := "33b95b66c159a83c4f24cef03861e154eb76201fa2c314326dd3c24e133f4787", func := "loop.example/g00462/laws.FnExactTextCol", spec := "fnExactTextCol", recurses := true, apart := false }
def FnExactTextColSaid : Prop := fnExactTextColRow.holds Try.pinned (OpenSpec.ofChange fnExactTextColSpec)

/-- ITS FALSE NEIGHBOUR: 'it returns false'. Refute it at one input. -/
def fnExactTextColWrong : ChangeSpec := { name := "fnExactTextCol", fn := fun _ => fun
  | [d] => { results := [.lit (.bool false)], args := [d] }
  | _ => none }
def FnExactTextColWrongFalsely : Prop := fnExactTextColRow.holds Try.pinned (OpenSpec.ofChange fnExactTextColWrong)

/-- 'laws.FnUndo': WHATEVER THE INPUT: true; the input reads as it did. -/
def fnUndoSpec : ChangeSpec := { name := "fnUndo", fn := fun _ => fun
  | [d] => { results := [.lit (.bool true)], args := [d] }
  | _ => none }
def fnUndoRow : OpenClaim := { program := "ytanipajbapcgfaa", sum := "33b95b66c159a83c4f24cef03861e154eb76201fa2c314326dd3c24e133f4787", func := "loop.example/g00462/laws.FnUndo", spec := "fnUndo", inPlace := ["slices.overlaps[loop.example/g00462/impl.Row]"], unfollowed := true, recurses := true, apart := false }
def FnUndoSaid : Prop := fnUndoRow.holds Try.pinned (OpenSpec.ofChange fnUndoSpec)

/-- ITS FALSE NEIGHBOUR: 'it returns false'. Refute it at one input. -/
def fnUndoWrong : ChangeSpec := { name := "fnUndo", fn := fun _ => fun
  | [d] => { results := [.lit (.bool false)], args := [d] }
  | _ => none }
def FnUndoWrongFalsely : Prop := fnUndoRow.holds Try.pinned (OpenSpec.ofChange fnUndoWrong)

/- THE SECOND FORM. 'bulk': how many values and letters a reading holds, each counted each time it is reached (what is shared counts as often as it is met; a slice's spare places count too). A statement '..UptoSaid' is the law's where the arguments, and the package variables that the reading takes, are together of bulk at most 1048576: NARROWER than '..Said'. Prove '..Said' where nothing that the law and all that it calls make is longer than what came in: it says more and counts as full. Else prove '..UptoSaid'. A law counts once. -/
mutual
def uptoBulk {H : Type} : DataW H → Nat
  | .lit (.string bytes) => bytes.length + 1
  | .lit _ => 1
  | .nil => 1
  | .ptr d => uptoBulk d + 1
  | .slice elems spare => uptoBulkAll elems + uptoBulkAll spare + 1
  | .agg parts => uptoBulkAll parts + 1
  | .iface _ d => uptoBulk d + 1
  | .map entries => uptoBulkEntries entries + 1
  | .held _ => 1
def uptoBulkAll {H : Type} : List (DataW H) → Nat
  | [] => 0
  | d :: r => uptoBulk d + uptoBulkAll r
def uptoBulkEntries {H : Type} : List (Lit × DataW H) → Nat
  | [] => 0
  | x :: r => uptoBulkEntry x + uptoBulkEntries r
def uptoBulkEntry {H : Type} : Lit × DataW H → Nat
  | (.string bytes, d) => bytes.length + uptoBulk d + 1
  | (_, d) => uptoBulk d + 1
 end
def uptoSmall : (H : Type) → List (DataW H) → Bool := fun _ ds => decide (uptoBulkAll ds ≤ 1048576)
def OpenSpec.upto (s : _root_.Go.ChangeSpec) : _root_.Go.OpenSpec := { _root_.Go.OpenSpec.ofChange s with cond := some uptoSmall }

/-- 'laws.FnExactWords', WHERE WHAT IT READS IS OF BULK AT MOST 1048576: true; the input reads as it did. -/
def fnExactWordsUptoRow : OpenClaim := { program := "ytanipajbapcgfaa", sum := "33b95b66c159a83c4f24cef03861e154eb76201fa2c314326dd3c24e133f4787", func := "loop.example/g00462/laws.FnExactWords", spec := "fnExactWords", apart := false, narrowed := true }
def FnExactWordsUptoSaid : Prop := fnExactWordsUptoRow.holds Try.pinned (OpenSpec.upto fnExactWordsSpec)

/-- 'laws.FnExactWordBytes', WHERE WHAT IT READS IS OF BULK AT MOST 1048576: true; the input reads as it did. -/
def fnExactWordBytesUptoRow : OpenClaim := { program := "ytanipajbapcgfaa", sum := "33b95b66c159a83c4f24cef03861e154eb76201fa2c314326dd3c24e133f4787", func := "loop.example/g00462/laws.FnExactWordBytes", spec := "fnExactWordBytes", apart := false, narrowed := true }
def FnExactWordBytesUptoSaid : Prop := fnExactWordBytesUptoRow.holds Try.pinned (OpenSpec.upto fnExactWordBytesSpec)

/-- 'laws.FnExactValBytes', WHERE WHAT IT READS IS OF BULK AT MOST 1048576: true; the input reads as it did. -/
def fnExactValBytesUptoRow : OpenClaim := { program := "ytanipajbapcgfaa", sum := "33b95b66c159a83c4f24cef03861e154eb76201fa2c314326dd3c24e133f4787", func := "loop.example/g00462/laws.FnExactValBytes", spec := "fnExactValBytes", apart := false, narrowed := true }
def FnExactValBytesUptoSaid : Prop := fnExactValBytesUptoRow.holds Try.pinned (OpenSpec.upto fnExactValBytesSpec)

/-- 'laws.FnExactRowBytes', WHERE WHAT IT READS IS OF BULK AT MOST 1048576: true; the input reads as it did. -/
def fnExactRowBytesUptoRow : OpenClaim := { program := "ytanipajbapcgfaa", sum := "33b95b66c159a83c4f24cef03861e154eb76201fa2c314326dd3c24e133f4787", func := "loop.example/g00462/laws.FnExactRowBytes", spec := "fnExactRowBytes", apart := false, narrowed := true }
def FnExactRowBytesUptoSaid : Prop := fnExactRowBytesUptoRow.holds Try.pinned (OpenSpec.upto fnExactRowBytesSpec)

/-- 'laws.FnExactKeyOf', WHERE WHAT IT READS IS OF BULK AT MOST 1048576: true; the input reads as it did. -/
def fnExactKeyOfUptoRow : OpenClaim := { program := "ytanipajbapcgfaa", sum := "33b95b66c159a83c4f24cef03861e154eb76201fa2c314326dd3c24e133f4787", func := "loop.example/g00462/laws.FnExactKeyOf", spec := "fnExactKeyOf", unfollowed := true, recurses := true, apart := false, narrowed := true }
def FnExactKeyOfUptoSaid : Prop := fnExactKeyOfUptoRow.holds Try.pinned (OpenSpec.upto fnExactKeyOfSpec)

/-- 'laws.FnExactTableOf', WHERE WHAT IT READS IS OF BULK AT MOST 1048576: true; the input reads as it did. -/
def fnExactTableOfUptoRow : OpenClaim := { program := "ytanipajbapcgfaa", sum := "33b95b66c159a83c4f24cef03861e154eb76201fa2c314326dd3c24e133f4787", func := "loop.example/g00462/laws.FnExactTableOf", spec := "fnExactTableOf", unfollowed := true, recurses := true, apart := false, narrowed := true }
def FnExactTableOfUptoSaid : Prop := fnExactTableOfUptoRow.holds Try.pinned (OpenSpec.upto fnExactTableOfSpec)

/-- 'laws.FnExactRowsOf', WHERE WHAT IT READS IS OF BULK AT MOST 1048576: true; the input reads as it did. -/
def fnExactRowsOfUptoRow : OpenClaim := { program := "ytanipajbapcgfaa", sum := "33b95b66c159a83c4f24cef03861e154eb76201fa2c314326dd3c24e133f4787", func := "loop.example/g00462/laws.FnExactRowsOf", spec := "fnExactRowsOf", unfollowed := true, recurses := true, apart := false, narrowed := true }
def FnExactRowsOfUptoSaid : Prop := fnExactRowsOfUptoRow.holds Try.pinned (OpenSpec.upto fnExactRowsOfSpec)

/-- 'laws.FnNums', WHERE WHAT IT READS IS OF BULK AT MOST 1048576: true; the input reads as it did. -/
def fnNumsUptoRow : OpenClaim := { program := "ytanipajbapcgfaa", sum := "33b95b66c159a83c4f24cef03861e154eb76201fa2c314326dd3c24e133f4787", func := "loop.example/g00462/laws.FnNums", spec := "fnNums", recurses := true, apart := false, narrowed := true }
def FnNumsUptoSaid : Prop := fnNumsUptoRow.holds Try.pinned (OpenSpec.upto fnNumsSpec)

/-- 'laws.FnCast', WHERE WHAT IT READS IS OF BULK AT MOST 1048576: true; the input reads as it did. -/
def fnCastUptoRow : OpenClaim := { program := "ytanipajbapcgfaa", sum := "33b95b66c159a83c4f24cef03861e154eb76201fa2c314326dd3c24e133f4787", func := "loop.example/g00462/laws.FnCast", spec := "fnCast", recurses := true, apart := false, narrowed := true }
def FnCastUptoSaid : Prop := fnCastUptoRow.holds Try.pinned (OpenSpec.upto fnCastSpec)

/-- 'laws.FnVal', WHERE WHAT IT READS IS OF BULK AT MOST 1048576: true; the input reads as it did. -/
def fnValUptoRow : OpenClaim := { program := "ytanipajbapcgfaa", sum := "33b95b66c159a83c4f24cef03861e154eb76201fa2c314326dd3c24e133f4787", func := "loop.example/g00462/laws.FnVal", spec := "fnVal", recurses := true, apart := false, narrowed := true }
def FnValUptoSaid : Prop := fnValUptoRow.holds Try.pinned (OpenSpec.upto fnValSpec)

/-- 'laws.FnExactTextCol', WHERE WHAT IT READS IS OF BULK AT MOST 1048576: true; the input reads as it did. -/
def fnExactTextColUptoRow : OpenClaim := { program := "ytanipajbapcgfaa", sum := "33b95b66c159a83c4f24cef03861e154eb76201fa2c314326dd3c24e133f4787", func := "loop.example/g00462/laws.FnExactTextCol", spec := "fnExactTextCol", recurses := true, apart := false, narrowed := true }
def FnExactTextColUptoSaid : Prop := fnExactTextColUptoRow.holds Try.pinned (OpenSpec.upto fnExactTextColSpec)

/-- 'laws.FnUndo', WHERE WHAT IT READS IS OF BULK AT MOST 1048576: true; the input reads as it did. -/
def fnUndoUptoRow : OpenClaim := { program := "ytanipajbapcgfaa", sum := "33b95b66c159a83c4f24cef03861e154eb76201fa2c314326dd3c24e133f4787", func := "loop.example/g00462/laws.FnUndo", spec := "fnUndo", inPlace := ["slices.overlaps[loop.example/g00462/impl.Row]"], unfollowed := true, recurses := true, apart := false, narrowed := true }
def FnUndoUptoSaid : Prop := fnUndoUptoRow.holds Try.pinned (OpenSpec.upto fnUndoSpec)

end Rows
end Go.Proofs.Ytanipajbapcgfaa

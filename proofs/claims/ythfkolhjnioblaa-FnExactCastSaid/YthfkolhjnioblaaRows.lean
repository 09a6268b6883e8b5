/-
  No cell of these rows narrows 'for every input' (looked for: loops, veiled, ifaces, maps, wideKeys, modest, calm, conditions, laid).
  DERIVED. THE GIVEN ROWS OF THIS SEAT. 12 by the template 'for every input the law returns true; each argument reads behind the call as it read before'; 0 by the template 'total and deterministic' (their statements: YthfkolhjnioblaaTotals.lean).
  GIVEN WITH THE SEED: the statements are not yours to turn. If you find one false, say at which input.
  Laid BY PROGRAM, IN A SANDBOX (cutbox-rows.mjs): the forced cells as the released guide's own fill.sh prints them over the translation f08ae417a05fdf8d… (all of the seat's roots in one cut). By AI agents, Wed Nov 11 2026. No macro, syntax, notation, axiom, sorry.
-/
import Derived.Test.YthfkolhjnioblaaChecked
import GoSem.Claim
import GoSem.ClaimJoined
import GoSem.ClaimMapViews
import Derived.JoinedTies
import Derived.KernelRfl
namespace Go.Proofs.Ythfkolhjnioblaa
/- THE CELL 'sum', in the pinned program and in every row, IS THE sha256 OF THE DUMP (.gsa) THAT YthfkolhjnioblaaProg.lean LOADS. Nothing in Lean hashes anything: it is a label: what it is worth is what the hold of that sum in a sandbox is worth. -/
noncomputable def Try.pinned : Pinned := { name := "ythfkolhjnioblaa", sum := "f08ae417a05fdf8d04f6ec8f8c61a20c631d27fae0ba04fc81cc2f12dcb4ed75", checked := Try.checked }
namespace Rows
def none {H : Type} : Left H := { results := [], args := [] }

/-- 'laws.FnExactKeyLess': WHATEVER THE INPUT: true; the input reads as it did. -/
def fnExactKeyLessSpec : ChangeSpec := { name := "fnExactKeyLess", fn := fun _ => fun
  | [d1, d2] => { results := [.lit (.bool true)], args := [d1, d2] }
  | _ => none }
def fnExactKeyLessRow : OpenClaim := { program := "ythfkolhjnioblaa", sum := "f08ae417a05fdf8d04f6ec8f8c61a20c631d27fae0ba04fc81cc2f12dcb4ed75", func := "loop.example/g00462/laws.FnExactKeyLess", spec := "fnExactKeyLess", apart := false }
def FnExactKeyLessSaid : Prop := fnExactKeyLessRow.holds Try.pinned (OpenSpec.ofChange fnExactKeyLessSpec)

/-- ITS FALSE NEIGHBOUR: 'it returns false'. Refute it at one input. -/
def fnExactKeyLessWrong : ChangeSpec := { name := "fnExactKeyLess", fn := fun _ => fun
  | [d1, d2] => { results := [.lit (.bool false)], args := [d1, d2] }
  | _ => none }
def FnExactKeyLessWrongFalsely : Prop := fnExactKeyLessRow.holds Try.pinned (OpenSpec.ofChange fnExactKeyLessWrong)

/-- 'laws.FnExactValText': WHATEVER THE INPUT: true; the input reads as it did. -/
def fnExactValTextSpec : ChangeSpec := { name := "fnExactValText", fn := fun _ => fun
  | [d] => { results := [.lit (.bool true)], args := [d] }
  | _ => none }
def fnExactValTextRow : OpenClaim := { program := "ythfkolhjnioblaa", sum := "f08ae417a05fdf8d04f6ec8f8c61a20c631d27fae0ba04fc81cc2f12dcb4ed75", func := "loop.example/g00462/laws.FnExactValText", spec := "fnExactValText", recurses := true, apart := false }
def FnExactValTextSaid : Prop := fnExactValTextRow.holds Try.pinned (OpenSpec.ofChange fnExactValTextSpec)

/-- ITS FALSE NEIGHBOUR: 'it returns false'. Refute it at one input. -/
def fnExactValTextWrong : ChangeSpec := { name := "fnExactValText", fn := fun _ => fun
  | [d] => { results := [.lit (.bool false)], args := [d] }
  | _ => none }
def FnExactValTextWrongFalsely : Prop := fnExactValTextRow.holds Try.pinned (OpenSpec.ofChange fnExactValTextWrong)

/-- 'laws.FnExactValBytes': WHATEVER THE INPUT: true; the input reads as it did. -/
def fnExactValBytesSpec : ChangeSpec := { name := "fnExactValBytes", fn := fun _ => fun
  | [d] => { results := [.lit (.bool true)], args := [d] }
  | _ => none }
def fnExactValBytesRow : OpenClaim := { program := "ythfkolhjnioblaa", sum := "f08ae417a05fdf8d04f6ec8f8c61a20c631d27fae0ba04fc81cc2f12dcb4ed75", func := "loop.example/g00462/laws.FnExactValBytes", spec := "fnExactValBytes", apart := false }
def FnExactValBytesSaid : Prop := fnExactValBytesRow.holds Try.pinned (OpenSpec.ofChange fnExactValBytesSpec)

/-- ITS FALSE NEIGHBOUR: 'it returns false'. Refute it at one input. -/
def fnExactValBytesWrong : ChangeSpec := { name := "fnExactValBytes", fn := fun _ => fun
  | [d] => { results := [.lit (.bool false)], args := [d] }
  | _ => none }
def FnExactValBytesWrongFalsely : Prop := fnExactValBytesRow.holds Try.pinned (OpenSpec.ofChange fnExactValBytesWrong)

/-- 'laws.FnNums': WHATEVER THE INPUT: true; the input reads as it did. -/
def fnNumsSpec : ChangeSpec := { name := "fnNums", fn := fun _ => fun
  | [d] => { results := [.lit (.bool true)], args := [d] }
  | _ => none }
def fnNumsRow : OpenClaim := { program := "ythfkolhjnioblaa", sum := "f08ae417a05fdf8d04f6ec8f8c61a20c631d27fae0ba04fc81cc2f12dcb4ed75", func := "loop.example/g00462/laws.FnNums", spec := "fnNums", recurses := true, apart := false }
def FnNumsSaid : Prop := fnNumsRow.holds Try.pinned (OpenSpec.ofChange fnNumsSpec)

/-- ITS FALSE NEIGHBOUR: 'it returns false'. Refute it at one input. -/
def fnNumsWrong : ChangeSpec := { name := "fnNums", fn := fun _ => fun
  | [d] => { results := [.lit (.bool false)], args := [d] }
  | _ => none }
def FnNumsWrongFalsely : Prop := fnNumsRow.holds Try.pinned (OpenSpec.ofChange fnNumsWrong)

/-- 'laws.FnExactSameRows': WHATEVER THE INPUT: true; the input reads as it did. -/
def fnExactSameRowsSpec : ChangeSpec := { name := "fnExactSameRows", fn := fun _ => fun
  | [d1, d2] => { results := [.lit (.bool true)], args := [d1, d2] }
  | _ => none }
def fnExactSameRowsRow : OpenClaim := { program := "ythfkolhjnioblaa", sum := "f08ae417a05fdf8d04f6ec8f8c61a20c631d27fae0ba04fc81cc2f12dcb4ed75", func := "loop.example/g00462/laws.FnExactSameRows", spec := "fnExactSameRows", unfollowed := true, recurses := true, apart := false }
def FnExactSameRowsSaid : Prop := fnExactSameRowsRow.holds Try.pinned (OpenSpec.ofChange fnExactSameRowsSpec)

/-- ITS FALSE NEIGHBOUR: 'it returns false'. Refute it at one input. -/
def fnExactSameRowsWrong : ChangeSpec := { name := "fnExactSameRows", fn := fun _ => fun
  | [d1, d2] => { results := [.lit (.bool false)], args := [d1, d2] }
  | _ => none }
def FnExactSameRowsWrongFalsely : Prop := fnExactSameRowsRow.holds Try.pinned (OpenSpec.ofChange fnExactSameRowsWrong)

/-- 'laws.FnExactColAt': WHATEVER THE INPUT: true; the input reads as it did. -/
def fnExactColAtSpec : ChangeSpec := { name := "fnExactColAt", fn := fun _ => fun
  | [d1, d2] => { results := [.lit (.bool true)], args := [d1, d2] }
  | _ => none }
def fnExactColAtRow : OpenClaim := { program := "ythfkolhjnioblaa", sum := "f08ae417a05fdf8d04f6ec8f8c61a20c631d27fae0ba04fc81cc2f12dcb4ed75", func := "loop.example/g00462/laws.FnExactColAt", spec := "fnExactColAt", unfollowed := true, recurses := true, apart := false }
def FnExactColAtSaid : Prop := fnExactColAtRow.holds Try.pinned (OpenSpec.ofChange fnExactColAtSpec)

/-- ITS FALSE NEIGHBOUR: 'it returns false'. Refute it at one input. -/
def fnExactColAtWrong : ChangeSpec := { name := "fnExactColAt", fn := fun _ => fun
  | [d1, d2] => { results := [.lit (.bool false)], args := [d1, d2] }
  | _ => none }
def FnExactColAtWrongFalsely : Prop := fnExactColAtRow.holds Try.pinned (OpenSpec.ofChange fnExactColAtWrong)

/-- 'laws.FnExactCast': WHATEVER THE INPUT: true; the input reads as it did. -/
def fnExactCastSpec : ChangeSpec := { name := "fnExactCast", fn := fun _ => fun
  | [d1, d2] => { results := [.lit (.bool true)], args := [d1, d2] }
  | _ => none }
def fnExactCastRow : OpenClaim := { program := "ythfkolhjnioblaa", sum := "f08ae417a05fdf8d04f6ec8f8c61a20c631d27fae0ba04fc81cc2f12dcb4ed75", func := "loop.example/g00462/laws.FnExactCast", spec := "fnExactCast", recurses := true, apart := false }
def FnExactCastSaid : Prop := fnExactCastRow.holds Try.pinned (OpenSpec.ofChange fnExactCastSpec)

/-- ITS FALSE NEIGHBOUR: 'it returns false'. Refute it at one input. -/
def fnExactCastWrong : ChangeSpec := { name := "fnExactCast", fn := fun _ => fun
  | [d1, d2] => { results := [.lit (.bool false)], args := [d1, d2] }
  | _ => none }
def FnExactCastWrongFalsely : Prop := fnExactCastRow.holds Try.pinned (OpenSpec.ofChange fnExactCastWrong)

/-- 'laws.FnExactColText': WHATEVER THE INPUT: true; the input reads as it did. -/
def fnExactColTextSpec : ChangeSpec := { name := "fnExactColText", fn := fun _ => fun
  | [d] => { results := [.lit (.bool true)], args := [d] }
  | _ => none }
def fnExactColTextRow : OpenClaim := { program := "ythfkolhjnioblaa", sum := "f08ae417a05fdf8d04f6ec8f8c61a20c631d27fae0ba04fc81cc2f12dcb4ed75", func := "loop.example/g00462/laws.FnExactColText", spec := "fnExactColText", recurses := true, apart := false }
def FnExactColTextSaid : Prop := fnExactColTextRow.holds Try.pinned (OpenSpec.ofChange fnExactColTextSpec)

/-- ITS FALSE NEIGHBOUR: 'it returns false'. Refute it at one input. -/
def fnExactColTextWrong : ChangeSpec := { name := "fnExactColText", fn := fun _ => fun
  | [d] => { results := [.lit (.bool false)], args := [d] }
  | _ => none }
def FnExactColTextWrongFalsely : Prop := fnExactColTextRow.holds Try.pinned (OpenSpec.ofChange fnExactColTextWrong)

/-- 'laws.FnExactRowBytes': WHATEVER THE INPUT: true; the input reads as it did. -/
def fnExactRowBytesSpec : ChangeSpec := { name := "fnExactRowBytes", fn := fun _ => fun
  | [d] => { results := [.lit (.bool true)], args := [d] }
  | _ => none }
def fnExactRowBytesRow : OpenClaim := { program := "ythfkolhjnioblaa", sum := "f08ae417a05fdf8d04f6ec8f8c61a20c631d27fae0ba04fc81cc2f12dcb4ed75", func := "loop.example/g00462/laws.FnExactRowBytes", spec := "fnExactRowBytes", apart := false }
def FnExactRowBytesSaid : Prop := fnExactRowBytesRow.holds Try.pinned (OpenSpec.ofChange fnExactRowBytesSpec)

/-- ITS FALSE NEIGHBOUR: 'it returns false'. Refute it at one input. -/
def fnExactRowBytesWrong : ChangeSpec := { name := "fnExactRowBytes", fn := fun _ => fun
  | [d] => { results := [.lit (.bool false)], args := [d] }
  | _ => none }
def FnExactRowBytesWrongFalsely : Prop := fnExactRowBytesRow.holds Try.pinned (OpenSpec.ofChange fnExactRowBytesWrong)

/-- 'laws.FnExactRowText': WHATEVER THE INPUT: true; the input reads as it did. -/
def fnExactRowTextSpec : ChangeSpec := { name := "fnExactRowText", fn := fun _ => fun
  | [d] => { results := [.lit (.bool true)], args := [d] }
  | _ => none }
def fnExactRowTextRow : OpenClaim := { program := "ythfkolhjnioblaa", sum := "f08ae417a05fdf8d04f6ec8f8c61a20c631d27fae0ba04fc81cc2f12dcb4ed75", func := "loop.example/g00462/laws.FnExactRowText", spec := "fnExactRowText", recurses := true, apart := false }
def FnExactRowTextSaid : Prop := fnExactRowTextRow.holds Try.pinned (OpenSpec.ofChange fnExactRowTextSpec)

/-- ITS FALSE NEIGHBOUR: 'it returns false'. Refute it at one input. -/
def fnExactRowTextWrong : ChangeSpec := { name := "fnExactRowText", fn := fun _ => fun
  | [d] => { results := [.lit (.bool false)], args := [d] }
  | _ => none }
def FnExactRowTextWrongFalsely : Prop := fnExactRowTextRow.holds Try.pinned (OpenSpec.ofChange fnExactRowTextWrong)

/-- 'laws.FnExactTextVal': WHATEVER THE INPUT: true; the input reads as it did. -/
def fnExactTextValSpec : ChangeSpec := { name := "fnExactTextVal", fn := fun _ => fun
  | [d] => { results := [.lit (.bool true)], args := [d] }
  | _ => none }
def fnExactTextValRow : OpenClaim := { program := "ythfkolhjnioblaa", sum := "f08ae417a05fdf8d04f6ec8f8c61a20c631d27fae0ba04fc81cc2f12dcb4ed75", func := "loop.example/g00462/laws.FnExactTextVal", spec := "fnExactTextVal", recurses := true, apart := false }
def FnExactTextValSaid : Prop := fnExactTextValRow.holds Try.pinned (OpenSpec.ofChange fnExactTextValSpec)

/-- ITS FALSE NEIGHBOUR: 'it returns false'. Refute it at one input. -/
def fnExactTextValWrong : ChangeSpec := { name := "fnExactTextVal", fn := fun _ => fun
  | [d] => { results := [.lit (.bool false)], args := [d] }
  | _ => none }
def FnExactTextValWrongFalsely : Prop := fnExactTextValRow.holds Try.pinned (OpenSpec.ofChange fnExactTextValWrong)

/-- 'laws.FnCast': WHATEVER THE INPUT: true; the input reads as it did. -/
def fnCastSpec : ChangeSpec := { name := "fnCast", fn := fun _ => fun
  | [d] => { results := [.lit (.bool true)], args := [d] }
  | _ => none }
def fnCastRow : OpenClaim := { program := "ythfkolhjnioblaa", sum := "f08ae417a05fdf8d04f6ec8f8c61a20c631d27fae0ba04fc81cc2f12dcb4ed75", func := "loop.example/g00462/laws.FnCast", spec := "fnCast", recurses := true, apart := false }
def FnCastSaid : Prop := fnCastRow.holds Try.pinned (OpenSpec.ofChange fnCastSpec)

/-- ITS FALSE NEIGHBOUR: 'it returns false'. Refute it at one input. -/
def fnCastWrong : ChangeSpec := { name := "fnCast", fn := fun _ => fun
  | [d] => { results := [.lit (.bool false)], args := [d] }
  | _ => none }
def FnCastWrongFalsely : Prop := fnCastRow.holds Try.pinned (OpenSpec.ofChange fnCastWrong)

/- THE SECOND FORM. 'bulk': how many values and letters a reading holds, each counted each time it is reached (what is shared counts as often as it is met; a slice's spare places count too). A statement '..UptoSaid' is the law's where the arguments, and the package variables that the reading takes, are together of bulk at most 1048576: NARROWER than '..Said'. Prove '..Said' where nothing that the law and all that it calls make is longer than what came in: it says more and counts as full. Else prove '..UptoSaid'. A law counts once. -/
mutual
def uptoBulk {H : Type} : DataW H → Nat
  | .lit (.string bytes) => bytes.length + 1
  | .lit _ => 1
  | .nil => 1
  | .ptr d => uptoBulk d + 1
  | .slice elems spare => uptoBulkAll elems + uptoBulkAll spare + 1
  | .agg parts => uptoBulkAll parts + 1
  | .iface _ d => uptoBulk d + 1
  | .map entries => uptoBulkEntries entries + 1
  | .held _ => 1
def uptoBulkAll {H : Type} : List (DataW H) → Nat
  | [] => 0
  | d :: r => uptoBulk d + uptoBulkAll r
def uptoBulkEntries {H : Type} : List (Lit × DataW H) → Nat
  | [] => 0
  | x :: r => uptoBulkEntry x + uptoBulkEntries r
def uptoBulkEntry {H : Type} : Lit × DataW H → Nat
  | (.string bytes, d) => bytes.length + uptoBulk d + 1
  | (_, d) => uptoBulk d + 1
 end
def uptoSmall : (H : Type) → List (DataW H) → Bool := fun _ ds => decide (uptoBulkAll ds ≤ 1048576)
def OpenSpec.upto (s : _root_.Go.ChangeSpec) : _root_.Go.OpenSpec := { _root_.Go.OpenSpec.ofChange s with cond := some uptoSmall }

/-- 'laws.FnExactKeyLess', WHERE WHAT IT READS IS OF BULK AT MOST 1048576: true; the input reads as it did. -/
def fnExactKeyLessUptoRow : OpenClaim := { program := "ythfkolhjnioblaa", sum := "f08ae417a05fdf8d04f6ec8f8c61a20c631d27fae0ba04fc81cc2f12dcb4ed75", func := "loop.example/g00462/laws.FnExactKeyLess", spec := "fnExactKeyLess", apart := false, narrowed := true }
def FnExactKeyLessUptoSaid : Prop := fnExactKeyLessUptoRow.holds Try.pinned (OpenSpec.upto fnExactKeyLessSpec)

/-- 'laws.FnExactValText', WHERE WHAT IT READS IS OF BULK AT MOST 1048576: true; the input reads as it did. -/
def fnExactValTextUptoRow : OpenClaim := { program := "ythfkolhjnioblaa", sum := "f08ae417a05fdf8d04f6ec8f8c61a20c631d27fae0ba04fc81cc2f12dcb4ed75", func := "loop.example/g00462/laws.FnExactValText", spec := "fnExactValText", recurses := true, apart := false, narrowed := true }
def FnExactValTextUptoSaid : Prop := fnExactValTextUptoRow.holds Try.pinned (OpenSpec.upto fnExactValTextSpec)

/-- 'laws.FnExactValBytes', WHERE WHAT IT READS IS OF BULK AT MOST 1048576: true; the input reads as it did. -/
def fnExactValBytesUptoRow : OpenClaim := { program := "ythfkolhjnioblaa", sum := "f08ae417a05fdf8d04f6ec8f8c61a20c631d27fae0ba04fc81cc2f12dcb4ed75", func := "loop.example/g00462/laws.FnExactValBytes", spec := "fnExactValBytes", apart := false, narrowed := true }
def FnExactValBytesUptoSaid : Prop := fnExactValBytesUptoRow.holds Try.pinned (OpenSpec.upto fnExactValBytesSpec)

/-- 'laws.FnNums', WHERE WHAT IT READS IS OF BULK AT MOST 1048576: true; the input reads as it did. -/
def fnNumsUptoRow : OpenClaim := { program := "ythfkolhjnioblaa", sum := "f08ae417a05fdf8d04f6ec8f8c61a20c631d27fae0ba04fc81cc2f12dcb4ed75", func := "loop.example/g00462/laws.FnNums", spec := "fnNums", recurses := true, apart := false, narrowed := true }
def FnNumsUptoSaid : Prop := fnNumsUptoRow.holds Try.pinned (OpenSpec.upto fnNumsSpec)

/-- 'laws.FnExactSameRows', WHERE WHAT IT READS IS OF BULK AT MOST 1048576: true; the input reads as it did. -/
def fnExactSameRowsUptoRow : OpenClaim := { program := "ythfkolhjnioblaa", sum := "f08ae417a05fdf8d04f6ec8f8c61a20c631d27fae0ba04fc81cc2f12dcb4ed75", func := "loop.example/g00462/laws.FnExactSameRows", spec := "fnExactSameRows", unfollowed := true, recurses := true, apart := false, narrowed := true }
def FnExactSameRowsUptoSaid : Prop := fnExactSameRowsUptoRow.holds Try.pinned (OpenSpec.upto fnExactSameRowsSpec)

/-- 'laws.FnExactColAt', WHERE WHAT IT READS IS OF BULK AT MOST 1048576: true; the input reads as it did. -/
def fnExactColAtUptoRow : OpenClaim := { program := "ythfkolhjnioblaa", sum := "f08ae417a05fdf8d04f6ec8f8c61a20c631d27fae0ba04fc81cc2f12dcb4ed75", func := "loop.example/g00462/laws.FnExactColAt", spec := "fnExactColAt", unfollowed := true, recurses := true, apart := false, narrowed := true }
def FnExactColAtUptoSaid : Prop := fnExactColAtUptoRow.holds Try.pinned (OpenSpec.upto fnExactColAtSpec)

/-- 'laws.FnExactCast', WHERE WHAT IT READS IS OF BULK AT MOST 1048576: true; the input reads as it did. -/
def fnExactCastUptoRow : OpenClaim := { program := "ythfkolhjnioblaa", sum := "f08ae417a05fdf8d04f6ec8f8c61a20c631d27fae0ba04fc81cc2f12dcb4ed75", func := "loop.example/g00462/laws.FnExactCast", spec := "fnExactCast", recurses := true, apart := false, narrowed := true }
def FnExactCastUptoSaid : Prop := fnExactCastUptoRow.holds Try.pinned (OpenSpec.upto fnExactCastSpec)

/-- 'laws.FnExactColText', WHERE WHAT IT READS IS OF BULK AT MOST 1048576: true; the input reads as it did. -/
def fnExactColTextUptoRow : OpenClaim := { program := "ythfkolhjnioblaa", sum := "f08ae417a05fdf8d04f6ec8f8c61a20c631d27fae0ba04fc81cc2f12dcb4ed75", func := "loop.example/g00462/laws.FnExactColText", spec := "fnExactColText", recurses := true, apart := false, narrowed := true }
def FnExactColTextUptoSaid : Prop := fnExactColTextUptoRow.holds Try.pinned (OpenSpec.upto fnExactColTextSpec)

/-- 'laws.FnExactRowBytes', WHERE WHAT IT READS IS OF BULK AT MOST 1048576: true; the input reads as it did. -/
def fnExactRowBytesUptoRow : OpenClaim := { program := "ythfkolhjnioblaa", sum := "f08ae417a05fdf8d04f6ec8f8c61a20c631d27fae0ba04fc81cc2f12dcb4ed75", func := "loop.example/g00462/laws.FnExactRowBytes", spec := "fnExactRowBytes", apart := false, narrowed := true }
def FnExactRowBytesUptoSaid : Prop := fnExactRowBytesUptoRow.holds Try.pinned (OpenSpec.upto fnExactRowBytesSpec)

/-- 'laws.FnExactRowText', WHERE WHAT IT READS IS OF BULK AT MOST 1048576: true; the input reads as it did. -/
def fnExactRowTextUptoRow : OpenClaim := { program := "ythfkolhjnioblaa", sum := "f08ae417a05fdf8d04f6ec8f8c61a20c631d27fae0ba04fc81cc2f12dcb4ed75", func := "loop.example/g00462/laws.FnExactRowText", spec := "fnExactRowText", recurses := true, apart := false, narrowed := true }
def FnExactRowTextUptoSaid : Prop := fnExactRowTextUptoRow.holds Try.pinned (OpenSpec.upto fnExactRowTextSpec)

/-- 'laws.FnExactTextVal', WHERE WHAT IT READS IS OF BULK AT MOST 1048576: true; the input reads as it did. -/
def fnExactTextValUptoRow : OpenClaim := { program := "ythfkolhjnioblaa", sum := "f08ae417a05fdf8d04f6ec8f8c61a20c631d27fae0ba04fc81cc2f12dcb4ed75", func := "loop.example/g00462/laws.FnExactTextVal", spec := "fnExactTextVal", recurses := true, apart := false, narrowed := true }
def FnExactTextValUptoSaid : Prop := fnExactTextValUptoRow.holds Try.pinned (OpenSpec.upto fnExactTextValSpec)

/-- 'laws.FnCast', WHERE WHAT IT READS IS OF BULK AT MOST 1048576: true; the input reads as it did. -/
def fnCastUptoRow : OpenClaim := { program := "ythfkolhjnioblaa", sum := "f08ae417a05fdf8d04f6ec8f8c61a20c631d27fae0ba04fc81cc2f12dcb4ed75", func := "loop.example/g00462/laws.FnCast", spec := "fnCast", recurses := true, apart := false, narrowed := true }
def FnCastUptoSaid : Prop := fnCastUptoRow.holds Try.pinned (OpenSpec.upto fnCastSpec)

end Rows
end Go.Proofs.Ythfkolhjnioblaa

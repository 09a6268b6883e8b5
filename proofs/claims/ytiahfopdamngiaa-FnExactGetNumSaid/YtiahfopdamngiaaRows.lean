/-
  No cell of these rows narrows 'for every input' (looked for: loops, veiled, ifaces, maps, wideKeys, modest, calm, conditions, laid).
  DERIVED. THE GIVEN ROWS OF THIS SEAT. 12 by the template 'for every input the law returns true; each argument reads behind the call as it read before'; 0 by the template 'total and deterministic' (their statements: YtiahfopdamngiaaTotals.lean).
  GIVEN WITH THE SEED: the statements are not yours to turn. If you find one false, say at which input.
  Laid BY PROGRAM, IN A SANDBOX (cutbox-rows.mjs): the forced cells as the released guide's own fill.sh prints them over the translation 4fac5db3085e4254… (all of the seat's roots in one cut). By AI agents, Wed Nov 11 2026. No macro, syntax, notation, axiom, sorry.
-/
import Derived.Test.YtiahfopdamngiaaChecked
import GoSem.Claim
import GoSem.ClaimJoined
import GoSem.ClaimMapViews
import Derived.JoinedTies
import Derived.KernelRfl
namespace Go.Proofs.Ytiahfopdamngiaa
/- THE CELL 'sum', in the pinned program and in every row, IS THE sha256 OF THE DUMP (.gsa) THAT YtiahfopdamngiaaProg.lean LOADS. Nothing in Lean hashes anything: it is a label: what it is worth is what the hold of that sum in a sandbox is worth. -/
noncomputable def Try.pinned : Pinned := { name := "ytiahfopdamngiaa", sum := "4fac5db3085e42545c3b346db77596455fcf25ff6ec66b0f404db40c0b4b0fe8", checked := Try.checked }
namespace Rows
def none {H : Type} : Left H := { results := [], args := [] }

/-- 'laws.FnExactConstants': WHATEVER THE INPUT: true; the input reads as it did. -/
def fnExactConstantsSpec : ChangeSpec := { name := "fnExactConstants", fn := fun _ => fun
  | [] => { results := [.lit (.bool true)], args := [] }
  | _ => none }
def fnExactConstantsRow : OpenClaim := { program := "ytiahfopdamngiaa", sum := "4fac5db3085e42545c3b346db77596455fcf25ff6ec66b0f404db40c0b4b0fe8", func := "loop.example/g00462/laws.FnExactConstants", spec := "fnExactConstants", apart := false }
def FnExactConstantsSaid : Prop := fnExactConstantsRow.holds Try.pinned (OpenSpec.ofChange fnExactConstantsSpec)

/-- ITS FALSE NEIGHBOUR: 'it returns false'. Refute it at one input. -/
def fnExactConstantsWrong : ChangeSpec := { name := "fnExactConstants", fn := fun _ => fun
  | [] => { results := [.lit (.bool false)], args := [] }
  | _ => none }
def FnExactConstantsWrongFalsely : Prop := fnExactConstantsRow.holds Try.pinned (OpenSpec.ofChange fnExactConstantsWrong)

/-- 'laws.FnExactWordOk': WHATEVER THE INPUT: true; the input reads as it did. -/
def fnExactWordOkSpec : ChangeSpec := { name := "fnExactWordOk", fn := fun _ => fun
  | [d] => { results := [.lit (.bool true)], args := [d] }
  | _ => none }
def fnExactWordOkRow : OpenClaim := { program := "ytiahfopdamngiaa", sum := "4fac5db3085e42545c3b346db77596455fcf25ff6ec66b0f404db40c0b4b0fe8", func := "loop.example/g00462/laws.FnExactWordOk", spec := "fnExactWordOk", apart := false }
def FnExactWordOkSaid : Prop := fnExactWordOkRow.holds Try.pinned (OpenSpec.ofChange fnExactWordOkSpec)

/-- ITS FALSE NEIGHBOUR: 'it returns false'. Refute it at one input. -/
def fnExactWordOkWrong : ChangeSpec := { name := "fnExactWordOk", fn := fun _ => fun
  | [d] => { results := [.lit (.bool false)], args := [d] }
  | _ => none }
def FnExactWordOkWrongFalsely : Prop := fnExactWordOkRow.holds Try.pinned (OpenSpec.ofChange fnExactWordOkWrong)

/-- 'laws.FnExactNumText': WHATEVER THE INPUT: true; the input reads as it did. -/
def fnExactNumTextSpec : ChangeSpec := { name := "fnExactNumText", fn := fun _ => fun
  | [d] => { results := [.lit (.bool true)], args := [d] }
  | _ => none }
def fnExactNumTextRow : OpenClaim := { program := "ytiahfopdamngiaa", sum := "4fac5db3085e42545c3b346db77596455fcf25ff6ec66b0f404db40c0b4b0fe8", func := "loop.example/g00462/laws.FnExactNumText", spec := "fnExactNumText", recurses := true, apart := false }
def FnExactNumTextSaid : Prop := fnExactNumTextRow.holds Try.pinned (OpenSpec.ofChange fnExactNumTextSpec)

/-- ITS FALSE NEIGHBOUR: 'it returns false'. Refute it at one input. -/
def fnExactNumTextWrong : ChangeSpec := { name := "fnExactNumText", fn := fun _ => fun
  | [d] => { results := [.lit (.bool false)], args := [d] }
  | _ => none }
def FnExactNumTextWrongFalsely : Prop := fnExactNumTextRow.holds Try.pinned (OpenSpec.ofChange fnExactNumTextWrong)

/-- 'laws.FnExactSum': WHATEVER THE INPUT: true; the input reads as it did. -/
def fnExactSumSpec : ChangeSpec := { name := "fnExactSum", fn := fun _ => fun
  | [d] => { results := [.lit (.bool true)], args := [d] }
  | _ => none }
def fnExactSumRow : OpenClaim := { program := "ytiahfopdamngiaa", sum := "4fac5db3085e42545c3b346db77596455fcf25ff6ec66b0f404db40c0b4b0fe8", func := "loop.example/g00462/laws.FnExactSum", spec := "fnExactSum", apart := false }
def FnExactSumSaid : Prop := fnExactSumRow.holds Try.pinned (OpenSpec.ofChange fnExactSumSpec)

/-- ITS FALSE NEIGHBOUR: 'it returns false'. Refute it at one input. -/
def fnExactSumWrong : ChangeSpec := { name := "fnExactSum", fn := fun _ => fun
  | [d] => { results := [.lit (.bool false)], args := [d] }
  | _ => none }
def FnExactSumWrongFalsely : Prop := fnExactSumRow.holds Try.pinned (OpenSpec.ofChange fnExactSumWrong)

/-- 'laws.FnExactGetNum': WHATEVER THE INPUT: true; the input reads as it did. -/
def fnExactGetNumSpec : ChangeSpec := { name := "fnExactGetNum", fn := fun _ => fun
  | [d1, d2, d3] => { results := [.lit (.bool true)], args := [d1, d2, d3] }
  | _ => none }
def fnExactGetNumRow : OpenClaim := { program := "ytiahfopdamngiaa", sum := "4fac5db3085e42545c3b346db77596455fcf25ff6ec66b0f404db40c0b4b0fe8", func := "loop.example/g00462/laws.FnExactGetNum", spec := "fnExactGetNum", apart := false }
def FnExactGetNumSaid : Prop := fnExactGetNumRow.holds Try.pinned (OpenSpec.ofChange fnExactGetNumSpec)

/-- ITS FALSE NEIGHBOUR: 'it returns false'. Refute it at one input. -/
def fnExactGetNumWrong : ChangeSpec := { name := "fnExactGetNum", fn := fun _ => fun
  | [d1, d2, d3] => { results := [.lit (.bool false)], args := [d1, d2, d3] }
  | _ => none }
def FnExactGetNumWrongFalsely : Prop := fnExactGetNumRow.holds Try.pinned (OpenSpec.ofChange fnExactGetNumWrong)

/-- 'laws.FnExactValOk': WHATEVER THE INPUT: true; the input reads as it did. -/
def fnExactValOkSpec : ChangeSpec := { name := "fnExactValOk", fn := fun _ => fun
  | [d] => { results := [.lit (.bool true)], args := [d] }
  | _ => none }
def fnExactValOkRow : OpenClaim := { program := "ytiahfopdamngiaa", sum := "4fac5db3085e42545c3b346db77596455fcf25ff6ec66b0f404db40c0b4b0fe8", func := "loop.example/g00462/laws.FnExactValOk", spec := "fnExactValOk", apart := false }
def FnExactValOkSaid : Prop := fnExactValOkRow.holds Try.pinned (OpenSpec.ofChange fnExactValOkSpec)

/-- ITS FALSE NEIGHBOUR: 'it returns false'. Refute it at one input. -/
def fnExactValOkWrong : ChangeSpec := { name := "fnExactValOk", fn := fun _ => fun
  | [d] => { results := [.lit (.bool false)], args := [d] }
  | _ => none }
def FnExactValOkWrongFalsely : Prop := fnExactValOkRow.holds Try.pinned (OpenSpec.ofChange fnExactValOkWrong)

/-- 'laws.FnExactPutNum': WHATEVER THE INPUT: true; the input reads as it did. -/
def fnExactPutNumSpec : ChangeSpec := { name := "fnExactPutNum", fn := fun _ => fun
  | [d1, d2, d3] => { results := [.lit (.bool true)], args := [d1, d2, d3] }
  | _ => none }
def fnExactPutNumRow : OpenClaim := { program := "ytiahfopdamngiaa", sum := "4fac5db3085e42545c3b346db77596455fcf25ff6ec66b0f404db40c0b4b0fe8", func := "loop.example/g00462/laws.FnExactPutNum", spec := "fnExactPutNum", apart := false }
def FnExactPutNumSaid : Prop := fnExactPutNumRow.holds Try.pinned (OpenSpec.ofChange fnExactPutNumSpec)

/-- ITS FALSE NEIGHBOUR: 'it returns false'. Refute it at one input. -/
def fnExactPutNumWrong : ChangeSpec := { name := "fnExactPutNum", fn := fun _ => fun
  | [d1, d2, d3] => { results := [.lit (.bool false)], args := [d1, d2, d3] }
  | _ => none }
def FnExactPutNumWrongFalsely : Prop := fnExactPutNumRow.holds Try.pinned (OpenSpec.ofChange fnExactPutNumWrong)

/-- 'laws.FnExactValLess': WHATEVER THE INPUT: true; the input reads as it did. -/
def fnExactValLessSpec : ChangeSpec := { name := "fnExactValLess", fn := fun _ => fun
  | [d1, d2] => { results := [.lit (.bool true)], args := [d1, d2] }
  | _ => none }
def fnExactValLessRow : OpenClaim := { program := "ytiahfopdamngiaa", sum := "4fac5db3085e42545c3b346db77596455fcf25ff6ec66b0f404db40c0b4b0fe8", func := "loop.example/g00462/laws.FnExactValLess", spec := "fnExactValLess", apart := false }
def FnExactValLessSaid : Prop := fnExactValLessRow.holds Try.pinned (OpenSpec.ofChange fnExactValLessSpec)

/-- ITS FALSE NEIGHBOUR: 'it returns false'. Refute it at one input. -/
def fnExactValLessWrong : ChangeSpec := { name := "fnExactValLess", fn := fun _ => fun
  | [d1, d2] => { results := [.lit (.bool false)], args := [d1, d2] }
  | _ => none }
def FnExactValLessWrongFalsely : Prop := fnExactValLessRow.holds Try.pinned (OpenSpec.ofChange fnExactValLessWrong)

/-- 'laws.FnExactWords': WHATEVER THE INPUT: true; the input reads as it did. -/
def fnExactWordsSpec : ChangeSpec := { name := "fnExactWords", fn := fun _ => fun
  | [d] => { results := [.lit (.bool true)], args := [d] }
  | _ => none }
def fnExactWordsRow : OpenClaim := { program := "ytiahfopdamngiaa", sum := "4fac5db3085e42545c3b346db77596455fcf25ff6ec66b0f404db40c0b4b0fe8", func := "loop.example/g00462/laws.FnExactWords", spec := "fnExactWords", apart := false }
def FnExactWordsSaid : Prop := fnExactWordsRow.holds Try.pinned (OpenSpec.ofChange fnExactWordsSpec)

/-- ITS FALSE NEIGHBOUR: 'it returns false'. Refute it at one input. -/
def fnExactWordsWrong : ChangeSpec := { name := "fnExactWords", fn := fun _ => fun
  | [d] => { results := [.lit (.bool false)], args := [d] }
  | _ => none }
def FnExactWordsWrongFalsely : Prop := fnExactWordsRow.holds Try.pinned (OpenSpec.ofChange fnExactWordsWrong)

/-- 'laws.FnExactWordBytes': WHATEVER THE INPUT: true; the input reads as it did. -/
def fnExactWordBytesSpec : ChangeSpec := { name := "fnExactWordBytes", fn := fun _ => fun
  | [d] => { results := [.lit (.bool true)], args := [d] }
  | _ => none }
def fnExactWordBytesRow : OpenClaim := { program := "ytiahfopdamngiaa", sum := "4fac5db3085e42545c3b346db77596455fcf25ff6ec66b0f404db40c0b4b0fe8", func := "loop.example/g00462/laws.FnExactWordBytes", spec := "fnExactWordBytes", apart := false }
def FnExactWordBytesSaid : Prop := fnExactWordBytesRow.holds Try.pinned (OpenSpec.ofChange fnExactWordBytesSpec)

/-- ITS FALSE NEIGHBOUR: 'it returns false'. Refute it at one input. -/
def fnExactWordBytesWrong : ChangeSpec := { name := "fnExactWordBytes", fn := fun _ => fun
  | [d] => { results := [.lit (.bool false)], args := [d] }
  | _ => none }
def FnExactWordBytesWrongFalsely : Prop := fnExactWordBytesRow.holds Try.pinned (OpenSpec.ofChange fnExactWordBytesWrong)

/-- 'laws.FnExactTextNum': WHATEVER THE INPUT: true; the input reads as it did. -/
def fnExactTextNumSpec : ChangeSpec := { name := "fnExactTextNum", fn := fun _ => fun
  | [d] => { results := [.lit (.bool true)], args := [d] }
  | _ => none }
def fnExactTextNumRow : OpenClaim := { program := "ytiahfopdamngiaa", sum := "4fac5db3085e42545c3b346db77596455fcf25ff6ec66b0f404db40c0b4b0fe8", func := "loop.example/g00462/laws.FnExactTextNum", spec := "fnExactTextNum", recurses := true, apart := false }
def FnExactTextNumSaid : Prop := fnExactTextNumRow.holds Try.pinned (OpenSpec.ofChange fnExactTextNumSpec)

/-- ITS FALSE NEIGHBOUR: 'it returns false'. Refute it at one input. -/
def fnExactTextNumWrong : ChangeSpec := { name := "fnExactTextNum", fn := fun _ => fun
  | [d] => { results := [.lit (.bool false)], args := [d] }
  | _ => none }
def FnExactTextNumWrongFalsely : Prop := fnExactTextNumRow.holds Try.pinned (OpenSpec.ofChange fnExactTextNumWrong)

/-- 'laws.FnExactColOk': WHATEVER THE INPUT: true; the input reads as it did. -/
def fnExactColOkSpec : ChangeSpec := { name := "fnExactColOk", fn := fun _ => fun
  | [d] => { results := [.lit (.bool true)], args := [d] }
  | _ => none }
def fnExactColOkRow : OpenClaim := { program := "ytiahfopdamngiaa", sum := "4fac5db3085e42545c3b346db77596455fcf25ff6ec66b0f404db40c0b4b0fe8", func := "loop.example/g00462/laws.FnExactColOk", spec := "fnExactColOk", apart := false }
def FnExactColOkSaid : Prop := fnExactColOkRow.holds Try.pinned (OpenSpec.ofChange fnExactColOkSpec)

/-- ITS FALSE NEIGHBOUR: 'it returns false'. Refute it at one input. -/
def fnExactColOkWrong : ChangeSpec := { name := "fnExactColOk", fn := fun _ => fun
  | [d] => { results := [.lit (.bool false)], args := [d] }
  | _ => none }
def FnExactColOkWrongFalsely : Prop := fnExactColOkRow.holds Try.pinned (OpenSpec.ofChange fnExactColOkWrong)

/- THE SECOND FORM. 'bulk': how many values and letters a reading holds, each counted each time it is reached (what is shared counts as often as it is met; a slice's spare places count too). A statement '..UptoSaid' is the law's where the arguments, and the package variables that the reading takes, are together of bulk at most 1048576: NARROWER than '..Said'. Prove '..Said' where nothing that the law and all that it calls make is longer than what came in: it says more and counts as full. Else prove '..UptoSaid'. A law counts once. -/
mutual
def uptoBulk {H : Type} : DataW H → Nat
  | .lit (.string bytes) => bytes.length + 1
  | .lit _ => 1
  | .nil => 1
  | .ptr d => uptoBulk d + 1
  | .slice elems spare => uptoBulkAll elems + uptoBulkAll spare + 1
  | .agg parts => uptoBulkAll parts + 1
  | .iface _ d => uptoBulk d + 1
  | .map entries => uptoBulkEntries entries + 1
  | .held _ => 1
def uptoBulkAll {H : Type} : List (DataW H) → Nat
  | [] => 0
  | d :: r => uptoBulk d + uptoBulkAll r
def uptoBulkEntries {H : Type} : List (Lit × DataW H) → Nat
  | [] => 0
  | x :: r => uptoBulkEntry x + uptoBulkEntries r
def uptoBulkEntry {H : Type} : Lit × DataW H → Nat
  | (.string bytes, d) => bytes.length + uptoBulk d + 1
  | (_, d) => uptoBulk d + 1
 end
def uptoSmall : (H : Type) → List (DataW H) → Bool := fun _ ds => decide (uptoBulkAll ds ≤ 1048576)
def OpenSpec.upto (s : _root_.Go.ChangeSpec) : _root_.Go.OpenSpec := { _root_.Go.OpenSpec.ofChange s with cond := some uptoSmall }

/-- 'laws.FnExactConstants', WHERE WHAT IT READS IS OF BULK AT MOST 1048576: true; the input reads as it did. -/
def fnExactConstantsUptoRow : OpenClaim := { program := "ytiahfopdamngiaa", sum := "4fac5db3085e42545c3b346db77596455fcf25ff6ec66b0f404db40c0b4b0fe8", func := "loop.example/g00462/laws.FnExactConstants", spec := "fnExactConstants", apart := false, narrowed := true }
def FnExactConstantsUptoSaid : Prop := fnExactConstantsUptoRow.holds Try.pinned (OpenSpec.upto fnExactConstantsSpec)

/-- 'laws.FnExactWordOk', WHERE WHAT IT READS IS OF BULK AT MOST 1048576: true; the input reads as it did. -/
def fnExactWordOkUptoRow : OpenClaim := { program := "ytiahfopdamngiaa", sum := "4fac5db3085e42545c3b346db77596455fcf25ff6ec66b0f404db40c0b4b0fe8", func := "loop.example/g00462/laws.FnExactWordOk", spec := "fnExactWordOk", apart := false, narrowed := true }
def FnExactWordOkUptoSaid : Prop := fnExactWordOkUptoRow.holds Try.pinned (OpenSpec.upto fnExactWordOkSpec)

/-- 'laws.FnExactNumText', WHERE WHAT IT READS IS OF BULK AT MOST 1048576: true; the input reads as it did. -/
def fnExactNumTextUptoRow : OpenClaim := { program := "ytiahfopdamngiaa", sum := "4fac5db3085e42545c3b346db77596455fcf25ff6ec66b0f404db40c0b4b0fe8", func := "loop.example/g00462/laws.FnExactNumText", spec := "fnExactNumText", recurses := true, apart := false, narrowed := true }
def FnExactNumTextUptoSaid : Prop := fnExactNumTextUptoRow.holds Try.pinned (OpenSpec.upto fnExactNumTextSpec)

/-- 'laws.FnExactSum', WHERE WHAT IT READS IS OF BULK AT MOST 1048576: true; the input reads as it did. -/
def fnExactSumUptoRow : OpenClaim := { program := "ytiahfopdamngiaa", sum := "4fac5db3085e42545c3b346db77596455fcf25ff6ec66b0f404db40c0b4b0fe8", func := "loop.example/g00462/laws.FnExactSum", spec := "fnExactSum", apart := false, narrowed := true }
def FnExactSumUptoSaid : Prop := fnExactSumUptoRow.holds Try.pinned (OpenSpec.upto fnExactSumSpec)

/-- 'laws.FnExactGetNum', WHERE WHAT IT READS IS OF BULK AT MOST 1048576: true; the input reads as it did. -/
def fnExactGetNumUptoRow : OpenClaim := { program := "ytiahfopdamngiaa", sum := "4fac5db3085e42545c3b346db77596455fcf25ff6ec66b0f404db40c0b4b0fe8", func := "loop.example/g00462/laws.FnExactGetNum", spec := "fnExactGetNum", apart := false, narrowed := true }
def FnExactGetNumUptoSaid : Prop := fnExactGetNumUptoRow.holds Try.pinned (OpenSpec.upto fnExactGetNumSpec)

/-- 'laws.FnExactValOk', WHERE WHAT IT READS IS OF BULK AT MOST 1048576: true; the input reads as it did. -/
def fnExactValOkUptoRow : OpenClaim := { program := "ytiahfopdamngiaa", sum := "4fac5db3085e42545c3b346db77596455fcf25ff6ec66b0f404db40c0b4b0fe8", func := "loop.example/g00462/laws.FnExactValOk", spec := "fnExactValOk", apart := false, narrowed := true }
def FnExactValOkUptoSaid : Prop := fnExactValOkUptoRow.holds Try.pinned (OpenSpec.upto fnExactValOkSpec)

/-- 'laws.FnExactPutNum', WHERE WHAT IT READS IS OF BULK AT MOST 1048576: true; the input reads as it did. -/
def fnExactPutNumUptoRow : OpenClaim := { program := "ytiahfopdamngiaa", sum := "4fac5db3085e42545c3b346db77596455fcf25ff6ec66b0f404db40c0b4b0fe8", func := "loop.example/g00462/laws.FnExactPutNum", spec := "fnExactPutNum", apart := false, narrowed := true }
def FnExactPutNumUptoSaid : Prop := fnExactPutNumUptoRow.holds Try.pinned (OpenSpec.upto fnExactPutNumSpec)

/-- 'laws.FnExactValLess', WHERE WHAT IT READS IS OF BULK AT MOST 1048576: true; the input reads as it did. -/
def fnExactValLessUptoRow : OpenClaim := { program := "ytiahfopdamngiaa", sum := "4fac5db3085e42545c3b346db77596455fcf25ff6ec66b0f404db40c0b4b0fe8", func := "loop.example/g00462/laws.FnExactValLess", spec := "fnExactValLess", apart := false, narrowed := true }
def FnExactValLessUptoSaid : Prop := fnExactValLessUptoRow.holds Try.pinned (OpenSpec.upto fnExactValLessSpec)

/-- 'laws.FnExactWords', WHERE WHAT IT READS IS OF BULK AT MOST 1048576: true; the input reads as it did. -/
def fnExactWordsUptoRow : OpenClaim := { program := "ytiahfopdamngiaa", sum := "4fac5db3085e42545c3b346db77596455fcf25ff6ec66b0f404db40c0b4b0fe8", func := "loop.example/g00462/laws.FnExactWords", spec := "fnExactWords", apart := false, narrowed := true }
def FnExactWordsUptoSaid : Prop := fnExactWordsUptoRow.holds Try.pinned (OpenSpec.upto fnExactWordsSpec)

/-- 'laws.FnExactWordBytes', WHERE WHAT IT READS IS OF BULK AT MOST 1048576: true; the input reads as it did. -/
def fnExactWordBytesUptoRow : OpenClaim := { program := "ytiahfopdamngiaa", sum := "4fac5db3085e42545c3b346db77596455fcf25ff6ec66b0f404db40c0b4b0fe8", func := "loop.example/g00462/laws.FnExactWordBytes", spec := "fnExactWordBytes", apart := false, narrowed := true }
def FnExactWordBytesUptoSaid : Prop := fnExactWordBytesUptoRow.holds Try.pinned (OpenSpec.upto fnExactWordBytesSpec)

/-- 'laws.FnExactTextNum', WHERE WHAT IT READS IS OF BULK AT MOST 1048576: true; the input reads as it did. -/
def fnExactTextNumUptoRow : OpenClaim := { program := "ytiahfopdamngiaa", sum := "4fac5db3085e42545c3b346db77596455fcf25ff6ec66b0f404db40c0b4b0fe8", func := "loop.example/g00462/laws.FnExactTextNum", spec := "fnExactTextNum", recurses := true, apart := false, narrowed := true }
def FnExactTextNumUptoSaid : Prop := fnExactTextNumUptoRow.holds Try.pinned (OpenSpec.upto fnExactTextNumSpec)

/-- 'laws.FnExactColOk', WHERE WHAT IT READS IS OF BULK AT MOST 1048576: true; the input reads as it did. -/
def fnExactColOkUptoRow : OpenClaim := { program := "ytiahfopdamngiaa", sum := "4fac5db3085e42545c3b346db77596455fcf25ff6ec66b0f404db40c0b4b0fe8", func := "loop.example/g00462/laws.FnExactColOk", spec := "fnExactColOk", apart := false, narrowed := true }
def FnExactColOkUptoSaid : Prop := fnExactColOkUptoRow.holds Try.pinned (OpenSpec.upto fnExactColOkSpec)

end Rows
end Go.Proofs.Ytiahfopdamngiaa

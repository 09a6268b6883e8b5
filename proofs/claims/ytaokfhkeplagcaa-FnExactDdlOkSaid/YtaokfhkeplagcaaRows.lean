/-
  No cell of these rows narrows 'for every input' (looked for: loops, veiled, ifaces, maps, wideKeys, modest, calm, conditions, laid).
  DERIVED. THE GIVEN ROWS OF THIS SEAT. 12 by the template 'for every input the law returns true; each argument reads behind the call as it read before'; 0 by the template 'total and deterministic' (their statements: YtaokfhkeplagcaaTotals.lean).
  GIVEN WITH THE SEED: the statements are not yours to turn. If you find one false, say at which input.
  Laid BY PROGRAM, IN A SANDBOX (cutbox-rows.mjs): the forced cells as the released guide's own fill.sh prints them over the translation 1e9782833cb92242… (all of the seat's roots in one cut). By AI agents, Wed Nov 11 2026. No macro, syntax, notation, axiom, sorry.
-/
import Derived.Test.YtaokfhkeplagcaaChecked
import GoSem.Claim
import GoSem.ClaimJoined
import GoSem.ClaimMapViews
import Derived.JoinedTies
import Derived.KernelRfl
namespace Go.Proofs.Ytaokfhkeplagcaa
/- THE CELL 'sum', in the pinned program and in every row, IS THE sha256 OF THE DUMP (.gsa) THAT YtaokfhkeplagcaaProg.lean LOADS. Nothing in Lean hashes anything: it is a label: what it is worth is what the hold of that sum in a sandbox is worth. -/
noncomputable def Try.pinned : Pinned := { name := "ytaokfhkeplagcaa", sum := "1e9782833cb9224214567fe92254788d9bdd026f7e4ce8dec9f9109cba18333b", checked := Try.checked }
namespace Rows
def none {H : Type} : Left H := { results := [], args := [] }

/-- 'laws.FnExactTableOk': WHATEVER THE INPUT: true; the input reads as it did. -/
def fnExactTableOkSpec : ChangeSpec := { name := "fnExactTableOk", fn := fun _ => fun
  | [d] => { results := [.lit (.bool true)], args := [d] }
  | _ => none }
def fnExactTableOkRow : OpenClaim := { program := "ytaokfhkeplagcaa", sum := "1e9782833cb9224214567fe92254788d9bdd026f7e4ce8dec9f9109cba18333b", func := "loop.example/g00462/laws.FnExactTableOk", spec := "fnExactTableOk", unfollowed := true, recurses := true, apart := false }
def FnExactTableOkSaid : Prop := fnExactTableOkRow.holds Try.pinned (OpenSpec.ofChange fnExactTableOkSpec)

/-- ITS FALSE NEIGHBOUR: 'it returns false'. Refute it at one input. -/
def fnExactTableOkWrong : ChangeSpec := { name := "fnExactTableOk", fn := fun _ => fun
  | [d] => { results := [.lit (.bool false)], args := [d] }
  | _ => none }
def FnExactTableOkWrongFalsely : Prop := fnExactTableOkRow.holds Try.pinned (OpenSpec.ofChange fnExactTableOkWrong)

/-- 'laws.FnVal': WHATEVER THE INPUT: true; the input reads as it did. -/
def fnValSpec : ChangeSpec := { name := "fnVal", fn := fun _ => fun
  | [d] => { results := [.lit (.bool true)], args := [d] }
  | _ => none }
def fnValRow : OpenClaim := { program := "ytaokfhkeplagcaa", sum := "1e9782833cb9224214567fe92254788d9bdd026f7e4ce8dec9f9109cba18333b", func := "loop.example/g00462/laws.FnVal", spec := "fnVal", recurses := true, apart := false }
def FnValSaid : Prop := fnValRow.holds Try.pinned (OpenSpec.ofChange fnValSpec)

/-- ITS FALSE NEIGHBOUR: 'it returns false'. Refute it at one input. -/
def fnValWrong : ChangeSpec := { name := "fnVal", fn := fun _ => fun
  | [d] => { results := [.lit (.bool false)], args := [d] }
  | _ => none }
def FnValWrongFalsely : Prop := fnValRow.holds Try.pinned (OpenSpec.ofChange fnValWrong)

/-- 'laws.FnExactSameTable': WHATEVER THE INPUT: true; the input reads as it did. -/
def fnExactSameTableSpec : ChangeSpec := { name := "fnExactSameTable", fn := fun _ => fun
  | [d1, d2] => { results := [.lit (.bool true)], args := [d1, d2] }
  | _ => none }
def fnExactSameTableRow : OpenClaim := { program := "ytaokfhkeplagcaa", sum := "1e9782833cb9224214567fe92254788d9bdd026f7e4ce8dec9f9109cba18333b", func := "loop.example/g00462/laws.FnExactSameTable", spec := "fnExactSameTable", unfollowed := true, recurses := true, apart := false }
def FnExactSameTableSaid : Prop := fnExactSameTableRow.holds Try.pinned (OpenSpec.ofChange fnExactSameTableSpec)

/-- ITS FALSE NEIGHBOUR: 'it returns false'. Refute it at one input. -/
def fnExactSameTableWrong : ChangeSpec := { name := "fnExactSameTable", fn := fun _ => fun
  | [d1, d2] => { results := [.lit (.bool false)], args := [d1, d2] }
  | _ => none }
def FnExactSameTableWrongFalsely : Prop := fnExactSameTableRow.holds Try.pinned (OpenSpec.ofChange fnExactSameTableWrong)

/-- 'laws.FnExactKeyOk': WHATEVER THE INPUT: true; the input reads as it did. -/
def fnExactKeyOkSpec : ChangeSpec := { name := "fnExactKeyOk", fn := fun _ => fun
  | [d1, d2] => { results := [.lit (.bool true)], args := [d1, d2] }
  | _ => none }
def fnExactKeyOkRow : OpenClaim := { program := "ytaokfhkeplagcaa", sum := "1e9782833cb9224214567fe92254788d9bdd026f7e4ce8dec9f9109cba18333b", func := "loop.example/g00462/laws.FnExactKeyOk", spec := "fnExactKeyOk", unfollowed := true, recurses := true, apart := false }
def FnExactKeyOkSaid : Prop := fnExactKeyOkRow.holds Try.pinned (OpenSpec.ofChange fnExactKeyOkSpec)

/-- ITS FALSE NEIGHBOUR: 'it returns false'. Refute it at one input. -/
def fnExactKeyOkWrong : ChangeSpec := { name := "fnExactKeyOk", fn := fun _ => fun
  | [d1, d2] => { results := [.lit (.bool false)], args := [d1, d2] }
  | _ => none }
def FnExactKeyOkWrongFalsely : Prop := fnExactKeyOkRow.holds Try.pinned (OpenSpec.ofChange fnExactKeyOkWrong)

/-- 'laws.FnExactCatOk': WHATEVER THE INPUT: true; the input reads as it did. -/
def fnExactCatOkSpec : ChangeSpec := { name := "fnExactCatOk", fn := fun _ => fun
  | [d] => { results := [.lit (.bool true)], args := [d] }
  | _ => none }
def fnExactCatOkRow : OpenClaim := { program := "ytaokfhkeplagcaa", sum := "1e9782833cb9224214567fe92254788d9bdd026f7e4ce8dec9f9109cba18333b", func := "loop.example/g00462/laws.FnExactCatOk", spec := "fnExactCatOk", unfollowed := true, recurses := true, apart := false }
def FnExactCatOkSaid : Prop := fnExactCatOkRow.holds Try.pinned (OpenSpec.ofChange fnExactCatOkSpec)

/-- ITS FALSE NEIGHBOUR: 'it returns false'. Refute it at one input. -/
def fnExactCatOkWrong : ChangeSpec := { name := "fnExactCatOk", fn := fun _ => fun
  | [d] => { results := [.lit (.bool false)], args := [d] }
  | _ => none }
def FnExactCatOkWrongFalsely : Prop := fnExactCatOkRow.holds Try.pinned (OpenSpec.ofChange fnExactCatOkWrong)

/-- 'laws.FnExactUsed': WHATEVER THE INPUT: true; the input reads as it did. -/
def fnExactUsedSpec : ChangeSpec := { name := "fnExactUsed", fn := fun _ => fun
  | [d1, d2] => { results := [.lit (.bool true)], args := [d1, d2] }
  | _ => none }
def fnExactUsedRow : OpenClaim := { program := "ytaokfhkeplagcaa", sum := "1e9782833cb9224214567fe92254788d9bdd026f7e4ce8dec9f9109cba18333b", func := "loop.example/g00462/laws.FnExactUsed", spec := "fnExactUsed", unfollowed := true, recurses := true, apart := false }
def FnExactUsedSaid : Prop := fnExactUsedRow.holds Try.pinned (OpenSpec.ofChange fnExactUsedSpec)

/-- ITS FALSE NEIGHBOUR: 'it returns false'. Refute it at one input. -/
def fnExactUsedWrong : ChangeSpec := { name := "fnExactUsed", fn := fun _ => fun
  | [d1, d2] => { results := [.lit (.bool false)], args := [d1, d2] }
  | _ => none }
def FnExactUsedWrongFalsely : Prop := fnExactUsedRow.holds Try.pinned (OpenSpec.ofChange fnExactUsedWrong)

/-- 'laws.FnExactDdlOk': WHATEVER THE INPUT: true; the input reads as it did. -/
def fnExactDdlOkSpec : ChangeSpec := { name := "fnExactDdlOk", fn := fun _ => fun
  | [d] => { results := [.lit (.bool true)], args := [d] }
  | _ => none }
def fnExactDdlOkRow : OpenClaim := { program := "ytaokfhkeplagcaa", sum := "1e9782833cb9224214567fe92254788d9bdd026f7e4ce8dec9f9109cba18333b", func := "loop.example/g00462/laws.FnExactDdlOk", spec := "fnExactDdlOk", unfollowed := true, recurses := true, apart := false }
def FnExactDdlOkSaid : Prop := fnExactDdlOkRow.holds Try.pinned (OpenSpec.ofChange fnExactDdlOkSpec)

/-- ITS FALSE NEIGHBOUR: 'it returns false'. Refute it at one input. -/
def fnExactDdlOkWrong : ChangeSpec := { name := "fnExactDdlOk", fn := fun _ => fun
  | [d] => { results := [.lit (.bool false)], args := [d] }
  | _ => none }
def FnExactDdlOkWrongFalsely : Prop := fnExactDdlOkRow.holds Try.pinned (OpenSpec.ofChange fnExactDdlOkWrong)

/-- 'laws.FnExactRowOk': WHATEVER THE INPUT: true; the input reads as it did. -/
def fnExactRowOkSpec : ChangeSpec := { name := "fnExactRowOk", fn := fun _ => fun
  | [d1, d2] => { results := [.lit (.bool true)], args := [d1, d2] }
  | _ => none }
def fnExactRowOkRow : OpenClaim := { program := "ytaokfhkeplagcaa", sum := "1e9782833cb9224214567fe92254788d9bdd026f7e4ce8dec9f9109cba18333b", func := "loop.example/g00462/laws.FnExactRowOk", spec := "fnExactRowOk", unfollowed := true, recurses := true, apart := false }
def FnExactRowOkSaid : Prop := fnExactRowOkRow.holds Try.pinned (OpenSpec.ofChange fnExactRowOkSpec)

/-- ITS FALSE NEIGHBOUR: 'it returns false'. Refute it at one input. -/
def fnExactRowOkWrong : ChangeSpec := { name := "fnExactRowOk", fn := fun _ => fun
  | [d1, d2] => { results := [.lit (.bool false)], args := [d1, d2] }
  | _ => none }
def FnExactRowOkWrongFalsely : Prop := fnExactRowOkRow.holds Try.pinned (OpenSpec.ofChange fnExactRowOkWrong)

/-- 'laws.FnExactTextCol': WHATEVER THE INPUT: true; the input reads as it did. -/
def fnExactTextColSpec : ChangeSpec := { name := "fnExactTextCol", fn := fun _ => fun
  | [d] => { results := [.lit (.bool true)], args := [d] }
  | _ => none }
def fnExactTextColRow : OpenClaim := { program := "ytaokfhkeplagcaa", sum := "1e9782833cb9224214567fe92254788d9bdd026f7e4ce8dec9f9109cba18333b", func := "loop.example/g00462/laws.FnExactTextCol", spec := "fnExactTextCol", recurses := true, apart := false }
def FnExactTextColSaid : Prop := fnExactTextColRow.holds Try.pinned (OpenSpec.ofChange fnExactTextColSpec)

/-- ITS FALSE NEIGHBOUR: 'it returns false'. Refute it at one input. -/
def fnExactTextColWrong : ChangeSpec := { name := "fnExactTextCol", fn := fun _ => fun
  | [d] => { results := [.lit (.bool false)], args := [d] }
  | _ => none }
def FnExactTextColWrongFalsely : Prop := fnExactTextColRow.holds Try.pinned (OpenSpec.ofChange fnExactTextColWrong)

/-- 'laws.FnExactKeyOf': WHATEVER THE INPUT: true; the input reads as it did. -/
def fnExactKeyOfSpec : ChangeSpec := { name := "fnExactKeyOf", fn := fun _ => fun
  | [d1, d2] => { results := [.lit (.bool true)], args := [d1, d2] }
  | _ => none }
def fnExactKeyOfRow : OpenClaim := { program := "ytaokfhkeplagcaa", sum := "1e9782833cb9224214567fe92254788d9bdd026f7e4ce8dec9f9109cba18333b", func := "loop.example/g00462/laws.FnExactKeyOf", spec := "fnExactKeyOf", unfollowed := true, recurses := true, apart := false }
def FnExactKeyOfSaid : Prop := fnExactKeyOfRow.holds Try.pinned (OpenSpec.ofChange fnExactKeyOfSpec)

/-- ITS FALSE NEIGHBOUR: 'it returns false'. Refute it at one input. -/
def fnExactKeyOfWrong : ChangeSpec := { name := "fnExactKeyOf", fn := fun _ => fun
  | [d1, d2] => { results := [.lit (.bool false)], args := [d1, d2] }
  | _ => none }
def FnExactKeyOfWrongFalsely : Prop := fnExactKeyOfRow.holds Try.pinned (OpenSpec.ofChange fnExactKeyOfWrong)

/-- 'laws.FnExactRowsOk': WHATEVER THE INPUT: true; the input reads as it did. -/
def fnExactRowsOkSpec : ChangeSpec := { name := "fnExactRowsOk", fn := fun _ => fun
  | [d1, d2] => { results := [.lit (.bool true)], args := [d1, d2] }
  | _ => none }
def fnExactRowsOkRow : OpenClaim := { program := "ytaokfhkeplagcaa", sum := "1e9782833cb9224214567fe92254788d9bdd026f7e4ce8dec9f9109cba18333b", func := "loop.example/g00462/laws.FnExactRowsOk", spec := "fnExactRowsOk", unfollowed := true, recurses := true, apart := false }
def FnExactRowsOkSaid : Prop := fnExactRowsOkRow.holds Try.pinned (OpenSpec.ofChange fnExactRowsOkSpec)

/-- ITS FALSE NEIGHBOUR: 'it returns false'. Refute it at one input. -/
def fnExactRowsOkWrong : ChangeSpec := { name := "fnExactRowsOk", fn := fun _ => fun
  | [d1, d2] => { results := [.lit (.bool false)], args := [d1, d2] }
  | _ => none }
def FnExactRowsOkWrongFalsely : Prop := fnExactRowsOkRow.holds Try.pinned (OpenSpec.ofChange fnExactRowsOkWrong)

/-- 'laws.FnExactTableOf': WHATEVER THE INPUT: true; the input reads as it did. -/
def fnExactTableOfSpec : ChangeSpec := { name := "fnExactTableOf", fn := fun _ => fun
  | [d1, d2] => { results := [.lit (.bool true)], args := [d1, d2] }
  | _ => none }
def fnExactTableOfRow : OpenClaim := { program := "ytaokfhkeplagcaa", sum := "1e9782833cb9224214567fe92254788d9bdd026f7e4ce8dec9f9109cba18333b", func := "loop.example/g00462/laws.FnExactTableOf", spec := "fnExactTableOf", unfollowed := true, recurses := true, apart := false }
def FnExactTableOfSaid : Prop := fnExactTableOfRow.holds Try.pinned (OpenSpec.ofChange fnExactTableOfSpec)

/-- ITS FALSE NEIGHBOUR: 'it returns false'. Refute it at one input. -/
def fnExactTableOfWrong : ChangeSpec := { name := "fnExactTableOf", fn := fun _ => fun
  | [d1, d2] => { results := [.lit (.bool false)], args := [d1, d2] }
  | _ => none }
def FnExactTableOfWrongFalsely : Prop := fnExactTableOfRow.holds Try.pinned (OpenSpec.ofChange fnExactTableOfWrong)

/- THE SECOND FORM. 'bulk': how many values and letters a reading holds, each counted each time it is reached (what is shared counts as often as it is met; a slice's spare places count too). A statement '..UptoSaid' is the law's where the arguments, and the package variables that the reading takes, are together of bulk at most 1048576: NARROWER than '..Said'. Prove '..Said' where nothing that the law and all that it calls make is longer than what came in: it says more and counts as full. Else prove '..UptoSaid'. A law counts once. -/
mutual
def uptoBulk {H : Type} : DataW H → Nat
  | .lit (.string bytes) => bytes.length + 1
  | .lit _ => 1
  | .nil => 1
  | .ptr d => uptoBulk d + 1
  | .slice elems spare => uptoBulkAll elems + uptoBulkAll spare + 1
  | .agg parts => uptoBulkAll parts + 1
  | .iface _ d => uptoBulk d + 1
  | .map entries => uptoBulkEntries entries + 1
  | .held _ => 1
def uptoBulkAll {H : Type} : List (DataW H) → Nat
  | [] => 0
  | d :: r => uptoBulk d + uptoBulkAll r
def uptoBulkEntries {H : Type} : List (Lit × DataW H) → Nat
  | [] => 0
  | x :: r => uptoBulkEntry x + uptoBulkEntries r
def uptoBulkEntry {H : Type} : Lit × DataW H → Nat
  | (.string bytes, d) => bytes.length + uptoBulk d + 1
  | (_, d) => uptoBulk d + 1
 end
def uptoSmall : (H : Type) → List (DataW H) → Bool := fun _ ds => decide (uptoBulkAll ds ≤ 1048576)
def OpenSpec.upto (s : _root_.Go.ChangeSpec) : _root_.Go.OpenSpec := { _root_.Go.OpenSpec.ofChange s with cond := some uptoSmall }

/-- 'laws.FnExactTableOk', WHERE WHAT IT READS IS OF BULK AT MOST 1048576: true; the input reads as it did. -/
def fnExactTableOkUptoRow : OpenClaim := { program := "ytaokfhkeplagcaa", sum := "1e9782833cb9224214567fe92254788d9bdd026f7e4ce8dec9f9109cba18333b", func := "loop.example/g00462/laws.FnExactTableOk", spec := "fnExactTableOk", unfollowed := true, recurses := true, apart := false, narrowed := true }
def FnExactTableOkUptoSaid : Prop := fnExactTableOkUptoRow.holds Try.pinned (OpenSpec.upto fnExactTableOkSpec)

/-- 'laws.FnVal', WHERE WHAT IT READS IS OF BULK AT MOST 1048576: true; the input reads as it did. -/
def fnValUptoRow : OpenClaim := { program := "ytaokfhkeplagcaa", sum := "1e9782833cb9224214567fe92254788d9bdd026f7e4ce8dec9f9109cba18333b", func := "loop.example/g00462/laws.FnVal", spec := "fnVal", recurses := true, apart := false, narrowed := true }
def FnValUptoSaid : Prop := fnValUptoRow.holds Try.pinned (OpenSpec.upto fnValSpec)

/-- 'laws.FnExactSameTable', WHERE WHAT IT READS IS OF BULK AT MOST 1048576: true; the input reads as it did. -/
def fnExactSameTableUptoRow : OpenClaim := { program := "ytaokfhkeplagcaa", sum := "1e9782833cb9224214567fe92254788d9bdd026f7e4ce8dec9f9109cba18333b", func := "loop.example/g00462/laws.FnExactSameTable", spec := "fnExactSameTable", unfollowed := true, recurses := true, apart := false, narrowed := true }
def FnExactSameTableUptoSaid : Prop := fnExactSameTableUptoRow.holds Try.pinned (OpenSpec.upto fnExactSameTableSpec)

/-- 'laws.FnExactKeyOk', WHERE WHAT IT READS IS OF BULK AT MOST 1048576: true; the input reads as it did. -/
def fnExactKeyOkUptoRow : OpenClaim := { program := "ytaokfhkeplagcaa", sum := "1e9782833cb9224214567fe92254788d9bdd026f7e4ce8dec9f9109cba18333b", func := "loop.example/g00462/laws.FnExactKeyOk", spec := "fnExactKeyOk", unfollowed := true, recurses := true, apart := false, narrowed := true }
def FnExactKeyOkUptoSaid : Prop := fnExactKeyOkUptoRow.holds Try.pinned (OpenSpec.upto fnExactKeyOkSpec)

/-- 'laws.FnExactCatOk', WHERE WHAT IT READS IS OF BULK AT MOST 1048576: true; the input reads as it did. -/
def fnExactCatOkUptoRow : OpenClaim := { program := "ytaokfhkeplagcaa", sum := "1e9782833cb9224214567fe92254788d9bdd026f7e4ce8dec9f9109cba18333b", func := "loop.example/g00462/laws.FnExactCatOk", spec := "fnExactCatOk", unfollowed := true, recurses := true, apart := false, narrowed := true }
def FnExactCatOkUptoSaid : Prop := fnExactCatOkUptoRow.holds Try.pinned (OpenSpec.upto fnExactCatOkSpec)

/-- 'laws.FnExactUsed', WHERE WHAT IT READS IS OF BULK AT MOST 1048576: true; the input reads as it did. -/
def fnExactUsedUptoRow : OpenClaim := { program := "ytaokfhkeplagcaa", sum := "1e9782833cb9224214567fe92254788d9bdd026f7e4ce8dec9f9109cba18333b", func := "loop.example/g00462/laws.FnExactUsed", spec := "fnExactUsed", unfollowed := true, recurses := true, apart := false, narrowed := true }
def FnExactUsedUptoSaid : Prop := fnExactUsedUptoRow.holds Try.pinned (OpenSpec.upto fnExactUsedSpec)

/-- 'laws.FnExactDdlOk', WHERE WHAT IT READS IS OF BULK AT MOST 1048576: true; the input reads as it did. -/
def fnExactDdlOkUptoRow : OpenClaim := { program := "ytaokfhkeplagcaa", sum := "1e9782833cb9224214567fe92254788d9bdd026f7e4ce8dec9f9109cba18333b", func := "loop.example/g00462/laws.FnExactDdlOk", spec := "fnExactDdlOk", unfollowed := true, recurses := true, apart := false, narrowed := true }
def FnExactDdlOkUptoSaid : Prop := fnExactDdlOkUptoRow.holds Try.pinned (OpenSpec.upto fnExactDdlOkSpec)

/-- 'laws.FnExactRowOk', WHERE WHAT IT READS IS OF BULK AT MOST 1048576: true; the input reads as it did. -/
def fnExactRowOkUptoRow : OpenClaim := { program := "ytaokfhkeplagcaa", sum := "1e9782833cb9224214567fe92254788d9bdd026f7e4ce8dec9f9109cba18333b", func := "loop.example/g00462/laws.FnExactRowOk", spec := "fnExactRowOk", unfollowed := true, recurses := true, apart := false, narrowed := true }
def FnExactRowOkUptoSaid : Prop := fnExactRowOkUptoRow.holds Try.pinned (OpenSpec.upto fnExactRowOkSpec)

/-- 'laws.FnExactTextCol', WHERE WHAT IT READS IS OF BULK AT MOST 1048576: true; the input reads as it did. -/
def fnExactTextColUptoRow : OpenClaim := { program := "ytaokfhkeplagcaa", sum := "1e9782833cb9224214567fe92254788d9bdd026f7e4ce8dec9f9109cba18333b", func := "loop.example/g00462/laws.FnExactTextCol", spec := "fnExactTextCol", recurses := true, apart := false, narrowed := true }
def FnExactTextColUptoSaid : Prop := fnExactTextColUptoRow.holds Try.pinned (OpenSpec.upto fnExactTextColSpec)

/-- 'laws.FnExactKeyOf', WHERE WHAT IT READS IS OF BULK AT MOST 1048576: true; the input reads as it did. -/
def fnExactKeyOfUptoRow : OpenClaim := { program := "ytaokfhkeplagcaa", sum := "1e9782833cb9224214567fe92254788d9bdd026f7e4ce8dec9f9109cba18333b", func := "loop.example/g00462/laws.FnExactKeyOf", spec := "fnExactKeyOf", unfollowed := true, recurses := true, apart := false, narrowed := true }
def FnExactKeyOfUptoSaid : Prop := fnExactKeyOfUptoRow.holds Try.pinned (OpenSpec.upto fnExactKeyOfSpec)

/-- 'laws.FnExactRowsOk', WHERE WHAT IT READS IS OF BULK AT MOST 1048576: true; the input reads as it did. -/
def fnExactRowsOkUptoRow : OpenClaim := { program := "ytaokfhkeplagcaa", sum := "1e9782833cb9224214567fe92254788d9bdd026f7e4ce8dec9f9109cba18333b", func := "loop.example/g00462/laws.FnExactRowsOk", spec := "fnExactRowsOk", unfollowed := true, recurses := true, apart := false, narrowed := true }
def FnExactRowsOkUptoSaid : Prop := fnExactRowsOkUptoRow.holds Try.pinned (OpenSpec.upto fnExactRowsOkSpec)

/-- 'laws.FnExactTableOf', WHERE WHAT IT READS IS OF BULK AT MOST 1048576: true; the input reads as it did. -/
def fnExactTableOfUptoRow : OpenClaim := { program := "ytaokfhkeplagcaa", sum := "1e9782833cb9224214567fe92254788d9bdd026f7e4ce8dec9f9109cba18333b", func := "loop.example/g00462/laws.FnExactTableOf", spec := "fnExactTableOf", unfollowed := true, recurses := true, apart := false, narrowed := true }
def FnExactTableOfUptoSaid : Prop := fnExactTableOfUptoRow.holds Try.pinned (OpenSpec.upto fnExactTableOfSpec)

end Rows
end Go.Proofs.Ytaokfhkeplagcaa

/-
  No cell of these rows narrows 'for every input' (looked for: loops, veiled, ifaces, maps, wideKeys, modest, calm, conditions, laid).
  DERIVED. THE GIVEN ROWS OF THIS SEAT. 3 by the template 'for every input the law returns true; each argument reads behind the call as it read before'; 0 by the template 'total and deterministic' (their statements: YtalmhjlcjcnidaaGreatTotals.lean).
  GIVEN WITH THE SEED: the statements are not yours to turn. If you find one false, say at which input.
  Laid BY PROGRAM, IN A SANDBOX (cutbox-rows.mjs): the forced cells as the released guide's own fill.sh prints them over the translation a7e2ee71f2609c99… (all of the seat's roots in one cut). By AI agents, Wed Nov 11 2026. No macro, syntax, notation, axiom, sorry.
-/
import Derived.Test.YtalmhjlcjcnidaaGreatChecked
import GoSem.Claim
import GoSem.ClaimJoined
import GoSem.ClaimMapViews
import Derived.JoinedTies
import Derived.KernelRfl
namespace Go.Proofs.YtalmhjlcjcnidaaGreat
/- THE CELL 'sum', in the pinned program and in every row, IS THE sha256 OF THE DUMP (.gsa) THAT YtalmhjlcjcnidaaGreatProg.lean LOADS. Nothing in Lean hashes anything: it is a label: what it is worth is what the hold of that sum in a sandbox is worth. -/
noncomputable def Tryz.pinned : Pinned := { name := "ytalmhjlcjcnidaagreat", sum := "a7e2ee71f2609c994db0504e56e4ef4cb762ca091496a3fd9e9554703b0ac541", checked := Tryz.checked }
namespace Rows
def none {H : Type} : Left H := { results := [], args := [] }

/-- 'laws.FnExec': WHATEVER THE INPUT: true; the input reads as it did. -/
def fnExecSpec : ChangeSpec := { name := "fnExec", fn := fun _ => fun
  | [d] => { results := [.lit (.bool true)], args := [d] }
  | _ => none }
def fnExecRow : OpenClaim := { program := "ytalmhjlcjcnidaagreat", sum := "a7e2ee71f2609c994db0504e56e4ef4cb762ca091496a3fd9e9554703b0ac541", func := "loop.example/g00462/laws.FnExec", spec := "fnExec", inPlace := ["slices.overlaps[loop.example/g00462/impl.Table]", "slices.overlaps[loop.example/g00462/impl.Rows]", "slices.overlaps[loop.example/g00462/impl.Row]"], unfollowed := true, recurses := true, apart := false }
def FnExecSaid : Prop := fnExecRow.holds Tryz.pinned (OpenSpec.ofChange fnExecSpec)

/-- ITS FALSE NEIGHBOUR: 'it returns false'. Refute it at one input. -/
def fnExecWrong : ChangeSpec := { name := "fnExec", fn := fun _ => fun
  | [d] => { results := [.lit (.bool false)], args := [d] }
  | _ => none }
def FnExecWrongFalsely : Prop := fnExecRow.holds Tryz.pinned (OpenSpec.ofChange fnExecWrong)

/-- 'laws.FnExactTextDb': WHATEVER THE INPUT: true; the input reads as it did. -/
def fnExactTextDbSpec : ChangeSpec := { name := "fnExactTextDb", fn := fun _ => fun
  | [d] => { results := [.lit (.bool true)], args := [d] }
  | _ => none }
def fnExactTextDbRow : OpenClaim := { program := "ytalmhjlcjcnidaagreat", sum := "a7e2ee71f2609c994db0504e56e4ef4cb762ca091496a3fd9e9554703b0ac541", func := "loop.example/g00462/laws.FnExactTextDb", spec := "fnExactTextDb", inPlace := ["slices.overlaps[loop.example/g00462/impl.Table]", "slices.overlaps[loop.example/g00462/impl.Rows]", "slices.overlaps[loop.example/g00462/impl.Row]"], unfollowed := true, recurses := true, apart := false }
def FnExactTextDbSaid : Prop := fnExactTextDbRow.holds Tryz.pinned (OpenSpec.ofChange fnExactTextDbSpec)

/-- ITS FALSE NEIGHBOUR: 'it returns false'. Refute it at one input. -/
def fnExactTextDbWrong : ChangeSpec := { name := "fnExactTextDb", fn := fun _ => fun
  | [d] => { results := [.lit (.bool false)], args := [d] }
  | _ => none }
def FnExactTextDbWrongFalsely : Prop := fnExactTextDbRow.holds Tryz.pinned (OpenSpec.ofChange fnExactTextDbWrong)

/-- 'laws.FnDb': WHATEVER THE INPUT: true; the input reads as it did. -/
def fnDbSpec : ChangeSpec := { name := "fnDb", fn := fun _ => fun
  | [d] => { results := [.lit (.bool true)], args := [d] }
  | _ => none }
def fnDbRow : OpenClaim := { program := "ytalmhjlcjcnidaagreat", sum := "a7e2ee71f2609c994db0504e56e4ef4cb762ca091496a3fd9e9554703b0ac541", func := "loop.example/g00462/laws.FnDb", spec := "fnDb", inPlace := ["slices.overlaps[loop.example/g00462/impl.Table]", "slices.overlaps[loop.example/g00462/impl.Rows]", "slices.overlaps[loop.example/g00462/impl.Row]"], unfollowed := true, recurses := true, apart := false }
def FnDbSaid : Prop := fnDbRow.holds Tryz.pinned (OpenSpec.ofChange fnDbSpec)

/-- ITS FALSE NEIGHBOUR: 'it returns false'. Refute it at one input. -/
def fnDbWrong : ChangeSpec := { name := "fnDb", fn := fun _ => fun
  | [d] => { results := [.lit (.bool false)], args := [d] }
  | _ => none }
def FnDbWrongFalsely : Prop := fnDbRow.holds Tryz.pinned (OpenSpec.ofChange fnDbWrong)

/- THE SECOND FORM. 'bulk': how many values and letters a reading holds, each counted each time it is reached (what is shared counts as often as it is met; a slice's spare places count too). A statement '..UptoSaid' is the law's where the arguments, and the package variables that the reading takes, are together of bulk at most 1048576: NARROWER than '..Said'. Prove '..Said' where nothing that the law and all that it calls make is longer than what came in: it says more and counts as full. Else prove '..UptoSaid'. A law counts once. -/
mutual
def uptoBulk {H : Type} : DataW H → Nat
  | .lit (.string bytes) => bytes.length + 1
  | .lit _ => 1
  | .nil => 1
  | .ptr d => uptoBulk d + 1
  | .slice elems spare => uptoBulkAll elems + uptoBulkAll spare + 1
  | .agg parts => uptoBulkAll parts + 1
  | .iface _ d => uptoBulk d + 1
  | .map entries => uptoBulkEntries entries + 1
  | .held _ => 1
def uptoBulkAll {H : Type} : List (DataW H) → Nat
  | [] => 0
  | d :: r => uptoBulk d + uptoBulkAll r
def uptoBulkEntries {H : Type} : List (Lit × DataW H) → Nat
  | [] => 0
  | x :: r => uptoBulkEntry x + uptoBulkEntries r
def uptoBulkEntry {H : Type} : Lit × DataW H → Nat
  | (.string bytes, d) => bytes.length + uptoBulk d + 1
  | (_, d) => uptoBulk d + 1
 end
def uptoSmall : (H : Type) → List (DataW H) → Bool := fun _ ds => decide (uptoBulkAll ds ≤ 1048576)
def OpenSpec.upto (s : _root_.Go.ChangeSpec) : _root_.Go.OpenSpec := { _root_.Go.OpenSpec.ofChange s with cond := some uptoSmall }

/-- 'laws.FnExec', WHERE WHAT IT READS IS OF BULK AT MOST 1048576: true; the input reads as it did. -/
def fnExecUptoRow : OpenClaim := { program := "ytalmhjlcjcnidaagreat", sum := "a7e2ee71f2609c994db0504e56e4ef4cb762ca091496a3fd9e9554703b0ac541", func := "loop.example/g00462/laws.FnExec", spec := "fnExec", inPlace := ["slices.overlaps[loop.example/g00462/impl.Table]", "slices.overlaps[loop.example/g00462/impl.Rows]", "slices.overlaps[loop.example/g00462/impl.Row]"], unfollowed := true, recurses := true, apart := false, narrowed := true }
def FnExecUptoSaid : Prop := fnExecUptoRow.holds Tryz.pinned (OpenSpec.upto fnExecSpec)

/-- 'laws.FnExactTextDb', WHERE WHAT IT READS IS OF BULK AT MOST 1048576: true; the input reads as it did. -/
def fnExactTextDbUptoRow : OpenClaim := { program := "ytalmhjlcjcnidaagreat", sum := "a7e2ee71f2609c994db0504e56e4ef4cb762ca091496a3fd9e9554703b0ac541", func := "loop.example/g00462/laws.FnExactTextDb", spec := "fnExactTextDb", inPlace := ["slices.overlaps[loop.example/g00462/impl.Table]", "slices.overlaps[loop.example/g00462/impl.Rows]", "slices.overlaps[loop.example/g00462/impl.Row]"], unfollowed := true, recurses := true, apart := false, narrowed := true }
def FnExactTextDbUptoSaid : Prop := fnExactTextDbUptoRow.holds Tryz.pinned (OpenSpec.upto fnExactTextDbSpec)

/-- 'laws.FnDb', WHERE WHAT IT READS IS OF BULK AT MOST 1048576: true; the input reads as it did. -/
def fnDbUptoRow : OpenClaim := { program := "ytalmhjlcjcnidaagreat", sum := "a7e2ee71f2609c994db0504e56e4ef4cb762ca091496a3fd9e9554703b0ac541", func := "loop.example/g00462/laws.FnDb", spec := "fnDb", inPlace := ["slices.overlaps[loop.example/g00462/impl.Table]", "slices.overlaps[loop.example/g00462/impl.Rows]", "slices.overlaps[loop.example/g00462/impl.Row]"], unfollowed := true, recurses := true, apart := false, narrowed := true }
def FnDbUptoSaid : Prop := fnDbUptoRow.holds Tryz.pinned (OpenSpec.upto fnDbSpec)

end Rows
end Go.Proofs.YtalmhjlcjcnidaaGreat

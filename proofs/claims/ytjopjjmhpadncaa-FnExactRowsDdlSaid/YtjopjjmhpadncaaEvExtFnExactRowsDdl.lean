/- The walks through the functions of the library that are told by contracts of their own, for the law FnExactRowsDdl. -/
import Derived.Test.YtjopjjmhpadncaaEvWalk
import Derived.Test.YtjopjjmhpadncaaEvRaw
import Derived.Test.YtjopjjmhpadncaaChecked
set_option linter.all false
namespace Go.Proofs.Ytjopjjmhpadncaa.Ev
open Go Go.Proofs
section
open Go.RowKit
set_option maxHeartbeats 4000000 in
set_option maxRecDepth 1000000 in
theorem del_94 (w : World) (b cap n i j : Nat) (hij : i < j) (hj : j ≤ n) (hn : n ≤ cap) (Q : Ending → World → Prop) (A : Option Addr) (hA : (if cap = j then some (⟨b, 0, none⟩ : Addr) else some ⟨b, j * 3, none⟩) = A)
    (W1 : World) (hap : ∀ ty, (Builtin.append_ #[28, 28] ty #[.slice (some ⟨b, 0, none⟩) i cap, .slice A (n - j) (cap - j)]).run Try.prog w.drew = .ok (.slice (some ⟨b, 0, none⟩) (i + (n - j)) cap) W1)
    (W2 : World) (hcl : ∀ ty, (Builtin.clear_ #[28] ty #[.slice (some ⟨b, (i + (n - j)) * 3, none⟩) (n - (i + (n - j))) (cap - (i + (n - j)))]).run Try.prog W1 = .ok (.tuple #[]) W2)
    (hQ : Q (.returned (.slice (some ⟨b, 0, none⟩) (i + (n - j)) cap)) W2) : Calls Try.prog 94 #[.slice (some ⟨b, 0, none⟩) n cap, .int .i64 i, .int .i64 j] w Q := by
  have hne : ¬ (i = j) := by omega
  have hic : i ≤ cap := by omega
  have hjc : j ≤ cap := by omega
  have mixed : Try.prog.follows .mixedOrders = true := by kernel_rfl
  go_enter Try.func94, Try.ntmps94
  go_wp2_with fail
  go_region_law_o (refine raw_want rfl (raw_append (.tmp 22) (.tmp 25) 28 28 rfl (.slice (some ⟨b, 0, none⟩) i cap) (.slice A (n - j) (cap - j)) (by simp [Act.eval, Act.put]) (by simp [Act.eval, Act.put]) (hap _) ?_))
  go_wp2_with (at_builtin; refine rawl_clear rfl (.tmp 31) 28 rfl _ rfl (hcl _) ?_)
  all_goals exact hQ
theorem delW_94 : DelW Try.prog 94 28 3 := ⟨ent_of Try.func94 rfl (by kernel_rfl), fun w b cap n i j h1 h2 h3 Q A hA W1 hap W2 hcl hQ => del_94 w b cap n i j h1 h2 h3 Q A hA W1 hap W2 hcl hQ⟩
end
end Go.Proofs.Ytjopjjmhpadncaa.Ev

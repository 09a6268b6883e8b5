/- The walks through the functions of the library that are told by contracts of their own, for the law FnExactSameDb. -/
import Derived.Test.YtjopjjmhpadncaaGreatEvWalk
import Derived.Test.YtjopjjmhpadncaaGreatEvRaw
import Derived.Test.YtjopjjmhpadncaaGreatEvSort
import Derived.Shelf.Lay
import Derived.Shelf.Sort.Plain
import Derived.Shelf.Slices.In.SortNone
import Derived.Test.YtjopjjmhpadncaaGreatChecked
set_option linter.all false
namespace Go.Proofs.YtjopjjmhpadncaaGreat.Ev
open Go Go.Proofs
section
open Go.RowKit
section
open Go.Shelf
shelf_lay Lays.n190 Nm 190 at Tryz as lays_27
theorem sortW_27 : SortW Tryz.prog 27 := ⟨ent_of Tryz.func27 rfl (by kernel_rfl), fun p cap w => Any.slices_Sort_string_none lays_27 p cap w, fun b off cap ss w h1 h2 h3 => Any.slices_Sort_string lays_27 b off cap ss w h1 h2 h3⟩
end
end
end Go.Proofs.YtjopjjmhpadncaaGreat.Ev

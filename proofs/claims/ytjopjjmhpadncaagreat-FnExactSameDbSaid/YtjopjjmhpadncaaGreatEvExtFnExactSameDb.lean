/- The walks through the functions of the library that are told by contracts of their own, for the law FnExactSameDb. -/
import Derived.Test.YtjopjjmhpadncaaGreatEvWalk
import Derived.Test.YtjopjjmhpadncaaGreatEvRaw
import Derived.Test.YtjopjjmhpadncaaGreatEvSort
import Derived.Shelf.Sort.Plain
import Derived.Shelf.Slices.In.SortNone
import Derived.Test.YtjopjjmhpadncaaGreatChecked
set_option linter.all false
namespace Go.Proofs.YtjopjjmhpadncaaGreat.Ev
open Go Go.Proofs
section
open Go.RowKit
section
open Go.Shelf
def lays_27_ren : Go.Shelf.Ren := ⟨fun | 190 => 27 | 125 => 52 | 258 => 51 | 128 => 79 | 129 => 80 | 302 => 70 | 303 => 71 | 304 => 72 | 305 => 73 | 306 => 74 | 307 => 75 | 308 => 76 | 309 => 77 | 310 => 78 | 333 => 102 | 329 => 103 | 330 => 104 | 334 => 105 | 335 => 106 | 336 => 107 | 344 => 118 | n => n, fun | 31 => 29 | 9 => 9 | 3 => 3 | 46 => 90 | 0 => 0 | 51 => 115 | 53 => 117 | 4 => 4 | 183 => 107 | 182 => 106 | 131 => 112 | 5 => 5 | 218 => 134 | 222 => 138 | 228 => 149 | 229 => 150 | n => n, fun | n => n⟩
theorem lays_27 : Go.Proofs.Lays.n190 Tryz.prog lays_27_ren where
  mixed := by kernel_rfl
  f125 := Tryz.func52.trans (congrArg some (by kernel_rfl))
  f128 := Tryz.func79.trans (congrArg some (by kernel_rfl))
  f129 := Tryz.func80.trans (congrArg some (by kernel_rfl))
  f190 := Tryz.func27.trans (congrArg some (by kernel_rfl))
  f258 := Tryz.func51.trans (congrArg some (by kernel_rfl))
  f302 := Tryz.func70.trans (congrArg some (by kernel_rfl))
  f303 := Tryz.func71.trans (congrArg some (by kernel_rfl))
  f304 := Tryz.func72.trans (congrArg some (by kernel_rfl))
  f305 := Tryz.func73.trans (congrArg some (by kernel_rfl))
  f306 := Tryz.func74.trans (congrArg some (by kernel_rfl))
  f307 := Tryz.func75.trans (congrArg some (by kernel_rfl))
  f308 := Tryz.func76.trans (congrArg some (by kernel_rfl))
  f309 := Tryz.func77.trans (congrArg some (by kernel_rfl))
  f310 := Tryz.func78.trans (congrArg some (by kernel_rfl))
  f329 := Tryz.func103.trans (congrArg some (by kernel_rfl))
  f330 := Tryz.func104.trans (congrArg some (by kernel_rfl))
  f333 := Tryz.func102.trans (congrArg some (by kernel_rfl))
  f334 := Tryz.func105.trans (congrArg some (by kernel_rfl))
  f335 := Tryz.func106.trans (congrArg some (by kernel_rfl))
  f336 := Tryz.func107.trans (congrArg some (by kernel_rfl))
  f344 := Tryz.func118.trans (congrArg some (by kernel_rfl))
  t0 := Tryz.underlying0
  a0 := Tryz.isAgg0
  z0 := Tryz.sizeOf0
  v0 := Tryz.zeroValue0
  t3 := Tryz.underlying3
  a3 := Tryz.isAgg3
  z3 := Tryz.sizeOf3
  v3 := Tryz.zeroValue3
  t4 := Tryz.underlying4
  a4 := Tryz.isAgg4
  z4 := Tryz.sizeOf4
  v4 := Tryz.zeroValue4
  t5 := Tryz.underlying5
  a5 := Tryz.isAgg5
  z5 := Tryz.sizeOf5
  v5 := Tryz.zeroValue5
  t9 := Tryz.underlying9
  a9 := Tryz.isAgg9
  z9 := Tryz.sizeOf9
  v9 := Tryz.zeroValue9
  t31 := Tryz.underlying29
  a31 := Tryz.isAgg29
  z31 := Tryz.sizeOf29
  v31 := Tryz.zeroValue29
  t46 := Tryz.underlying90
  a46 := Tryz.isAgg90
  z46 := Tryz.sizeOf90
  v46 := Tryz.zeroValue90
  t51 := Tryz.underlying115
  a51 := Tryz.isAgg115
  z51 := Tryz.sizeOf115
  v51 := Tryz.zeroValue115
  t53 := Tryz.underlying117
  a53 := Tryz.isAgg117
  z53 := Tryz.sizeOf117
  v53 := Tryz.zeroValue117
  t131 := Tryz.underlying112
  a131 := Tryz.isAgg112
  z131 := Tryz.sizeOf112
  v131 := Tryz.zeroValue112
  t182 := Tryz.underlying106
  a182 := Tryz.isAgg106
  z182 := Tryz.sizeOf106
  v182 := Tryz.zeroValue106
  t183 := Tryz.underlying107
  a183 := Tryz.isAgg107
  z183 := Tryz.sizeOf107
  v183 := Tryz.zeroValue107
  t218 := Tryz.underlying134
  a218 := Tryz.isAgg134
  z218 := Tryz.sizeOf134
  v218 := Tryz.zeroValue134
  t222 := Tryz.underlying138
  a222 := Tryz.isAgg138
  z222 := Tryz.sizeOf138
  v222 := Tryz.zeroValue138
  t228 := Tryz.underlying149
  a228 := Tryz.isAgg149
  z228 := Tryz.sizeOf149
  v228 := Tryz.zeroValue149
  t229 := Tryz.underlying150
  a229 := Tryz.isAgg150
  z229 := Tryz.sizeOf150
  v229 := Tryz.zeroValue150
theorem sortW_27 : SortW Tryz.prog 27 := ⟨ent_of Tryz.func27 rfl (by kernel_rfl), fun p cap w => Any.slices_Sort_string_none lays_27 p cap w, fun b off cap ss w h1 h2 h3 => Any.slices_Sort_string lays_27 b off cap ss w h1 h2 h3⟩
end
end
end Go.Proofs.YtjopjjmhpadncaaGreat.Ev

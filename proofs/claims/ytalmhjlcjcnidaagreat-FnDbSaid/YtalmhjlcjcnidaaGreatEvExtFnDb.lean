/- The walks through the functions of the library that are told by contracts of their own, for the law FnDb. -/
import Derived.Test.YtalmhjlcjcnidaaGreatEvWalk
import Derived.Test.YtalmhjlcjcnidaaGreatEvRaw
import Derived.Test.YtalmhjlcjcnidaaGreatEvSort
import Derived.Shelf.Sort.Plain
import Derived.Shelf.Slices.In.SortNone
import Derived.Test.YtalmhjlcjcnidaaGreatChecked
set_option linter.all false
namespace Go.Proofs.YtalmhjlcjcnidaaGreat.Ev
open Go Go.Proofs
section
open Go.RowKit
set_option maxHeartbeats 4000000 in
set_option maxRecDepth 1000000 in
theorem E8t (w:World)(b cap n vc:Nat)(va:Addr)(hn:n≤cap)(hbig:n+1≤4611686018427387904)(Q:Ending→World→Prop)(R:Value)(W1:World)
    (hap:∀ty,(Builtin.append_ #[23,23] ty #[.slice (some ⟨b,0,none⟩) n cap,.slice (some va) 1 vc]).run Tryz.prog w= .ok R W1) (hQ:Q (.returned R) W1):
    Calls Tryz.prog 199 #[.slice (some ⟨b,0,none⟩) n cap,.int .i64 n,.slice (some va) 1 vc] w Q:=by
  have mixed:Tryz.prog.follows .mixedOrders=true:=by kernel_rfl
  go_enter Tryz.func199,Tryz.ntmps199
  go_wp2_with (at_builtin;refine B0f rfl (.tmp 23) (.tmp 24) 23 23 rfl _ _ rfl rfl (hap _) ?_)
  all_goals exact hQ
set_option maxHeartbeats 4000000 in
set_option maxRecDepth 1000000 in
theorem E8z (w:World)(vc:Nat)(va:Addr)(Q:Ending→World→Prop)(R:Value)(W1:World)(hap:∀ty,(Builtin.append_ #[23,23] ty #[.slice none 0 0,.slice (some va) 1 vc]).run Tryz.prog w= .ok R W1)(hQ:Q (.returned R) W1):
    Calls Tryz.prog 199 #[.slice none 0 0,.int .i64 0,.slice (some va) 1 vc] w Q:=by
  have mixed:Tryz.prog.follows .mixedOrders=true:=by kernel_rfl
  go_enter Tryz.func199,Tryz.ntmps199
  go_wp2_with (at_builtin;refine B0f rfl (.tmp 23) (.tmp 24) 23 23 rfl _ _ rfl rfl (hap _) ?_)
  all_goals exact hQ
set_option maxHeartbeats 4000000 in
set_option maxRecDepth 1000000 in
theorem E8w (w:World)(b cap n i vc N G:Nat)(va:Addr)(hi:i<n)(hn:n≤cap)(hg:cap<n+1)(hG:n+1≤G)(hbig:n+1≤4611686018427387904)(Q:Ending→World→Prop)(W1 W2 W3:World)
    (hap:∀ty,(Builtin.append_ #[23,3] ty #[.slice (some ⟨b,0,none⟩) i cap,.int .i64 (n+1 - i)]).run Tryz.prog w= .ok (.slice (some ⟨N,0,none⟩) (n+1) G) W1)
    (hc1:∀ty,(Builtin.copy_ #[23,23] ty #[.slice (some ⟨N,i*3,none⟩) (n+1 - i) (G - i),.slice (some va) 1 vc]).run Tryz.prog W1= .ok (.int .i64 1) W2)
    (hc2:∀ty,(Builtin.copy_ #[23,23] ty #[.slice (some ⟨N,(i+1)*3,none⟩) (n - i) (G - (i+1)),.slice (some ⟨b,i*3,none⟩) (n - i) (cap - i)]).run Tryz.prog W2.drew= .ok (.int .i64 (n - i)) W3)
    (hQ:Q (.returned (.slice (some ⟨N,0,none⟩) (n+1) G)) W3):Calls Tryz.prog 199 #[.slice (some ⟨b,0,none⟩) n cap,.int .i64 i,.slice (some va) 1 vc] w Q:=by
  have mixed:Tryz.prog.follows .mixedOrders=true:=by kernel_rfl
  have hz2:¬((i:Int)=(n:Int)):=by omega
  have hz3:(cap:Int)<(n:Int)+1:=by omega
  have hw1:IntKind.i64.wrap ((i:Int)+1)=(i:Int)+1:=by rw[IntKind.wrap_i64];omega
  have hw2:IntKind.i64.wrap ((n:Int)+1)=(n:Int)+1:=by rw[IntKind.wrap_i64];omega
  have hw3:IntKind.i64.wrap ((n:Int)+1 - i)=(n:Int)+1 - i:=by rw[IntKind.wrap_i64];omega
  have hb1:(0:Int)≤(i:Int)+1:=by omega
  have hin:i≤n:=by omega
  have hin2:(i:Int)≤(n:Int)+1:=by omega
  have hic:¬(cap=i):=by omega
  have hGi:¬(G=i):=by omega
  have hGi1:¬(G=i+1):=by omega
  go_enter Tryz.func199,Tryz.ntmps199
  go_wp2_with (first
    |(at_builtin;refine B0f rfl (.tmp 34) (.tmp 39) 23 3 rfl _ _ rfl rfl (hap _) ?_)
    |(at_builtin;refine B19 rfl (.tmp 43) (.tmp 44) 23 23 rfl _ _ rfl rfl (hc1 _) ?_))
  go_region_law_o (refine B1p rfl (A9i (.tmp 50) (.tmp 53) 23 23 rfl (.slice (some ⟨N,(i+1)*3,none⟩) (n - i) (G - (i+1))) (.slice (some ⟨b,i*3,none⟩) (n - i) (cap - i)) (by simp[Act.eval,Act.put]) (by simp[Act.eval,Act.put]) (hc2 _) ?_))
  go_wp2
  all_goals exact hQ
set_option maxHeartbeats 4000000 in
set_option maxRecDepth 1000000 in
theorem E92 (w:World)(b cap n i vc:Nat)(va:Addr)(hi:i<n)(hn:n+1≤cap)(hbig:n+1≤4611686018427387904)(Q:Ending→World→Prop)
    (hov:(callFunc 236 #[.slice (some va) 1 vc,.slice (some ⟨b,(i+1)*3,none⟩) (n - i) (cap - (i+1))]).run Tryz.prog w= .ok (.value (.bool false)) w) (W1 W2:World)
    (hc1:∀ty,(Builtin.copy_ #[23,23] ty #[.slice (some ⟨b,(i+1)*3,none⟩) (n - i) (cap - (i+1)),.slice (some ⟨b,i*3,none⟩) (n+1 - i) (cap - i)]).run Tryz.prog w.drew= .ok (.int .i64 (n - i)) W1)
    (hc2:∀ty,(Builtin.copy_ #[23,23] ty #[.slice (some ⟨b,i*3,none⟩) (n+1 - i) (cap - i),.slice (some va) 1 vc]).run Tryz.prog W1= .ok (.int .i64 1) W2)
    (hQ:Q (.returned (.slice (some ⟨b,0,none⟩) (n+1) cap)) W2):Calls Tryz.prog 199 #[.slice (some ⟨b,0,none⟩) n cap,.int .i64 i,.slice (some va) 1 vc] w Q:=by
  have mixed:Tryz.prog.follows .mixedOrders=true:=by kernel_rfl
  have hz2:¬((i:Int)=(n:Int)):=by omega
  have hz3:¬(cap:Int)<(n:Int)+1:=by omega
  have hw1:IntKind.i64.wrap ((i:Int)+1)=(i:Int)+1:=by rw[IntKind.wrap_i64];omega
  have hw2:IntKind.i64.wrap ((n:Int)+1)=(n:Int)+1:=by rw[IntKind.wrap_i64];omega
  have hb1:(0:Int)≤(i:Int)+1:=by omega
  have hin:i≤n:=by omega
  have hin2:(i:Int)≤(n:Int)+1:=by omega
  have hic:¬(cap=i):=by omega
  have hic1:¬(cap=i+1):=by omega
  go_enter Tryz.func199,Tryz.ntmps199
  go_wp2_with (simp only[hov])
  go_region_law_o (refine B1p rfl (A9i (.tmp 73) (.tmp 76) 23 23 rfl (.slice (some ⟨b,(i+1)*3,none⟩) (n - i) (cap - (i+1))) (.slice (some ⟨b,i*3,none⟩) (n+1 - i) (cap - i)) (by simp[Act.eval,Act.put]) (by simp[Act.eval,Act.put]) (hc1 _) ?_))
  go_wp2_with (at_builtin;refine B19 rfl (.tmp 80) (.tmp 81) 23 23 rfl _ _ rfl rfl (hc2 _) ?_)
  all_goals exact hQ
theorem E95:B1c Tryz.prog 199 236 23 4 3 3:=⟨B1z Tryz.func199 rfl (by kernel_rfl),fun args w=>run_callFunc_extern Tryz.func236 (by kernel_rfl) (by kernel_rfl) (by kernel_rfl) (by kernel_rfl) args w,E8z,E8t,
  fun w b cap n i vc N G va h1 h2 h3 h4 h5 Q W1 W2 W3 e1 e2 e3 hQ=>E8w w b cap n i vc N G va h1 h2 h3 h4 h5 Q W1 W2 W3 e1 e2 e3 hQ,
  fun w b cap n i vc va h1 h2 h3 Q e0 W1 W2 e1 e2 hQ=>E92 w b cap n i vc va h1 h2 h3 Q e0 W1 W2 e1 e2 hQ⟩
set_option maxHeartbeats 4000000 in
set_option maxRecDepth 1000000 in
theorem F01 (w:World)(b cap n i j:Nat)(hij:i<j)(hj:j≤n)(hn:n≤cap)(Q:Ending→World→Prop)(A:Option Addr)(hA:(if cap=j then some (⟨b,0,none⟩:Addr)else some ⟨b,j*3,none⟩)=A)
    (W1:World) (hap:∀ty,(Builtin.append_ #[23,23] ty #[.slice (some ⟨b,0,none⟩) i cap,.slice A (n - j) (cap - j)]).run Tryz.prog w.drew= .ok (.slice (some ⟨b,0,none⟩) (i+(n - j)) cap) W1)
    (W2:World) (hcl:∀ty,(Builtin.clear_ #[23] ty #[.slice (some ⟨b,(i+(n - j))*3,none⟩) (n - (i+(n - j))) (cap - (i+(n - j)))]).run Tryz.prog W1= .ok (.tuple #[]) W2)
    (hQ:Q (.returned (.slice (some ⟨b,0,none⟩) (i+(n - j)) cap)) W2):Calls Tryz.prog 200 #[.slice (some ⟨b,0,none⟩) n cap,.int .i64 i,.int .i64 j] w Q:=by
  have hne:¬(i=j):=by omega
  have hic:i≤cap:=by omega
  have hjc:j≤cap:=by omega
  have mixed:Tryz.prog.follows .mixedOrders=true:=by kernel_rfl
  go_enter Tryz.func200,Tryz.ntmps200
  go_wp2_with fail
  go_region_law_o (refine B1p rfl (A74 (.tmp 22) (.tmp 25) 23 23 rfl (.slice (some ⟨b,0,none⟩) i cap) (.slice A (n - j) (cap - j)) (by simp[Act.eval,Act.put]) (by simp[Act.eval,Act.put]) (hap _) ?_))
  go_wp2_with (at_builtin;refine B0y rfl (.tmp 31) 23 rfl _ rfl (hcl _) ?_)
  all_goals exact hQ
theorem E8j:B1b Tryz.prog 200 23 3:=⟨B1z Tryz.func200 rfl (by kernel_rfl),fun w b cap n i j h1 h2 h3 Q A hA W1 hap W2 hcl hQ=>F01 w b cap n i j h1 h2 h3 Q A hA W1 hap W2 hcl hQ⟩
set_option maxHeartbeats 4000000 in
set_option maxRecDepth 1000000 in
theorem E8s (w:World)(b cap n vc:Nat)(va:Addr)(hn:n≤cap)(hbig:n+1≤4611686018427387904)(Q:Ending→World→Prop)(R:Value)(W1:World)
    (hap:∀ty,(Builtin.append_ #[26,26] ty #[.slice (some ⟨b,0,none⟩) n cap,.slice (some va) 1 vc]).run Tryz.prog w= .ok R W1) (hQ:Q (.returned R) W1):
    Calls Tryz.prog 137 #[.slice (some ⟨b,0,none⟩) n cap,.int .i64 n,.slice (some va) 1 vc] w Q:=by
  have mixed:Tryz.prog.follows .mixedOrders=true:=by kernel_rfl
  go_enter Tryz.func137,Tryz.ntmps137
  go_wp2_with (at_builtin;refine B0f rfl (.tmp 23) (.tmp 24) 26 26 rfl _ _ rfl rfl (hap _) ?_)
  all_goals exact hQ
set_option maxHeartbeats 4000000 in
set_option maxRecDepth 1000000 in
theorem E8y (w:World)(vc:Nat)(va:Addr)(Q:Ending→World→Prop)(R:Value)(W1:World)(hap:∀ty,(Builtin.append_ #[26,26] ty #[.slice none 0 0,.slice (some va) 1 vc]).run Tryz.prog w= .ok R W1)(hQ:Q (.returned R) W1):
    Calls Tryz.prog 137 #[.slice none 0 0,.int .i64 0,.slice (some va) 1 vc] w Q:=by
  have mixed:Tryz.prog.follows .mixedOrders=true:=by kernel_rfl
  go_enter Tryz.func137,Tryz.ntmps137
  go_wp2_with (at_builtin;refine B0f rfl (.tmp 23) (.tmp 24) 26 26 rfl _ _ rfl rfl (hap _) ?_)
  all_goals exact hQ
set_option maxHeartbeats 4000000 in
set_option maxRecDepth 1000000 in
theorem E8v (w:World)(b cap n i vc N G:Nat)(va:Addr)(hi:i<n)(hn:n≤cap)(hg:cap<n+1)(hG:n+1≤G)(hbig:n+1≤4611686018427387904)(Q:Ending→World→Prop)(W1 W2 W3:World)
    (hap:∀ty,(Builtin.append_ #[26,3] ty #[.slice (some ⟨b,0,none⟩) i cap,.int .i64 (n+1 - i)]).run Tryz.prog w= .ok (.slice (some ⟨N,0,none⟩) (n+1) G) W1)
    (hc1:∀ty,(Builtin.copy_ #[26,26] ty #[.slice (some ⟨N,i,none⟩) (n+1 - i) (G - i),.slice (some va) 1 vc]).run Tryz.prog W1= .ok (.int .i64 1) W2)
    (hc2:∀ty,(Builtin.copy_ #[26,26] ty #[.slice (some ⟨N,i+1,none⟩) (n - i) (G - (i+1)),.slice (some ⟨b,i,none⟩) (n - i) (cap - i)]).run Tryz.prog W2.drew= .ok (.int .i64 (n - i)) W3)
    (hQ:Q (.returned (.slice (some ⟨N,0,none⟩) (n+1) G)) W3):Calls Tryz.prog 137 #[.slice (some ⟨b,0,none⟩) n cap,.int .i64 i,.slice (some va) 1 vc] w Q:=by
  have mixed:Tryz.prog.follows .mixedOrders=true:=by kernel_rfl
  have hz2:¬((i:Int)=(n:Int)):=by omega
  have hz3:(cap:Int)<(n:Int)+1:=by omega
  have hw1:IntKind.i64.wrap ((i:Int)+1)=(i:Int)+1:=by rw[IntKind.wrap_i64];omega
  have hw2:IntKind.i64.wrap ((n:Int)+1)=(n:Int)+1:=by rw[IntKind.wrap_i64];omega
  have hw3:IntKind.i64.wrap ((n:Int)+1 - i)=(n:Int)+1 - i:=by rw[IntKind.wrap_i64];omega
  have hb1:(0:Int)≤(i:Int)+1:=by omega
  have hin:i≤n:=by omega
  have hin2:(i:Int)≤(n:Int)+1:=by omega
  have hic:¬(cap=i):=by omega
  have hGi:¬(G=i):=by omega
  have hGi1:¬(G=i+1):=by omega
  go_enter Tryz.func137,Tryz.ntmps137
  go_wp2_with (first
    |(at_builtin;refine B0f rfl (.tmp 34) (.tmp 39) 26 3 rfl _ _ rfl rfl (hap _) ?_)
    |(at_builtin;refine B19 rfl (.tmp 43) (.tmp 44) 26 26 rfl _ _ rfl rfl (hc1 _) ?_))
  go_region_law_o (refine B1p rfl (A9i (.tmp 50) (.tmp 53) 26 26 rfl (.slice (some ⟨N,i+1,none⟩) (n - i) (G - (i+1))) (.slice (some ⟨b,i,none⟩) (n - i) (cap - i)) (by simp[Act.eval,Act.put]) (by simp[Act.eval,Act.put]) (hc2 _) ?_))
  go_wp2
  all_goals exact hQ
set_option maxHeartbeats 4000000 in
set_option maxRecDepth 1000000 in
theorem E91 (w:World)(b cap n i vc:Nat)(va:Addr)(hi:i<n)(hn:n+1≤cap)(hbig:n+1≤4611686018427387904)(Q:Ending→World→Prop)
    (hov:(callFunc 203 #[.slice (some va) 1 vc,.slice (some ⟨b,i+1,none⟩) (n - i) (cap - (i+1))]).run Tryz.prog w= .ok (.value (.bool false)) w) (W1 W2:World)
    (hc1:∀ty,(Builtin.copy_ #[26,26] ty #[.slice (some ⟨b,i+1,none⟩) (n - i) (cap - (i+1)),.slice (some ⟨b,i,none⟩) (n+1 - i) (cap - i)]).run Tryz.prog w.drew= .ok (.int .i64 (n - i)) W1)
    (hc2:∀ty,(Builtin.copy_ #[26,26] ty #[.slice (some ⟨b,i,none⟩) (n+1 - i) (cap - i),.slice (some va) 1 vc]).run Tryz.prog W1= .ok (.int .i64 1) W2)
    (hQ:Q (.returned (.slice (some ⟨b,0,none⟩) (n+1) cap)) W2):Calls Tryz.prog 137 #[.slice (some ⟨b,0,none⟩) n cap,.int .i64 i,.slice (some va) 1 vc] w Q:=by
  have mixed:Tryz.prog.follows .mixedOrders=true:=by kernel_rfl
  have hz2:¬((i:Int)=(n:Int)):=by omega
  have hz3:¬(cap:Int)<(n:Int)+1:=by omega
  have hw1:IntKind.i64.wrap ((i:Int)+1)=(i:Int)+1:=by rw[IntKind.wrap_i64];omega
  have hw2:IntKind.i64.wrap ((n:Int)+1)=(n:Int)+1:=by rw[IntKind.wrap_i64];omega
  have hb1:(0:Int)≤(i:Int)+1:=by omega
  have hin:i≤n:=by omega
  have hin2:(i:Int)≤(n:Int)+1:=by omega
  have hic:¬(cap=i):=by omega
  have hic1:¬(cap=i+1):=by omega
  go_enter Tryz.func137,Tryz.ntmps137
  go_wp2_with (simp only[hov])
  go_region_law_o (refine B1p rfl (A9i (.tmp 73) (.tmp 76) 26 26 rfl (.slice (some ⟨b,i+1,none⟩) (n - i) (cap - (i+1))) (.slice (some ⟨b,i,none⟩) (n+1 - i) (cap - i)) (by simp[Act.eval,Act.put]) (by simp[Act.eval,Act.put]) (hc1 _) ?_))
  go_wp2_with (at_builtin;refine B19 rfl (.tmp 80) (.tmp 81) 26 26 rfl _ _ rfl rfl (hc2 _) ?_)
  all_goals exact hQ
theorem E94:B1c Tryz.prog 137 203 26 4 3 1:=⟨B1z Tryz.func137 rfl (by kernel_rfl),fun args w=>run_callFunc_extern Tryz.func203 (by kernel_rfl) (by kernel_rfl) (by kernel_rfl) (by kernel_rfl) args w,E8y,E8s,
  fun w b cap n i vc N G va h1 h2 h3 h4 h5 Q W1 W2 W3 e1 e2 e3 hQ=>E8v w b cap n i vc N G va h1 h2 h3 h4 h5 Q W1 W2 W3 e1 (by simpa only[Nat.mul_one]using e2) (by simpa only[Nat.mul_one]using e3) hQ,
  fun w b cap n i vc va h1 h2 h3 Q e0 W1 W2 e1 e2 hQ=>E91 w b cap n i vc va h1 h2 h3 Q (by simpa only[Nat.mul_one]using e0) W1 W2 (by simpa only[Nat.mul_one]using e1) (by simpa only[Nat.mul_one]using e2) hQ⟩
set_option maxHeartbeats 4000000 in
set_option maxRecDepth 1000000 in
theorem E9z (w:World)(b cap n i j:Nat)(hij:i<j)(hj:j≤n)(hn:n≤cap)(Q:Ending→World→Prop)(A:Option Addr)(hA:(if cap=j then some (⟨b,0,none⟩:Addr)else some ⟨b,j,none⟩)=A)
    (W1:World) (hap:∀ty,(Builtin.append_ #[26,26] ty #[.slice (some ⟨b,0,none⟩) i cap,.slice A (n - j) (cap - j)]).run Tryz.prog w.drew= .ok (.slice (some ⟨b,0,none⟩) (i+(n - j)) cap) W1)
    (W2:World) (hcl:∀ty,(Builtin.clear_ #[26] ty #[.slice (some ⟨b,i+(n - j),none⟩) (n - (i+(n - j))) (cap - (i+(n - j)))]).run Tryz.prog W1= .ok (.tuple #[]) W2)
    (hQ:Q (.returned (.slice (some ⟨b,0,none⟩) (i+(n - j)) cap)) W2):Calls Tryz.prog 138 #[.slice (some ⟨b,0,none⟩) n cap,.int .i64 i,.int .i64 j] w Q:=by
  have hne:¬(i=j):=by omega
  have hic:i≤cap:=by omega
  have hjc:j≤cap:=by omega
  have mixed:Tryz.prog.follows .mixedOrders=true:=by kernel_rfl
  go_enter Tryz.func138,Tryz.ntmps138
  go_wp2_with fail
  go_region_law_o (refine B1p rfl (A74 (.tmp 22) (.tmp 25) 26 26 rfl (.slice (some ⟨b,0,none⟩) i cap) (.slice A (n - j) (cap - j)) (by simp[Act.eval,Act.put]) (by simp[Act.eval,Act.put]) (hap _) ?_))
  go_wp2_with (at_builtin;refine B0y rfl (.tmp 31) 26 rfl _ rfl (hcl _) ?_)
  all_goals exact hQ
theorem E8h:B1b Tryz.prog 138 26 1:=⟨B1z Tryz.func138 rfl (by kernel_rfl),fun w b cap n i j h1 h2 h3 Q A hA W1 hap W2 hcl hQ=>E9z w b cap n i j h1 h2 h3 Q A (by simpa only[Nat.mul_one]using hA) W1 hap W2 (by simpa only[Nat.mul_one]using hcl) hQ⟩
set_option maxHeartbeats 4000000 in
set_option maxRecDepth 1000000 in
theorem F02 (w:World)(b cap n i j:Nat)(hij:i<j)(hj:j≤n)(hn:n≤cap)(Q:Ending→World→Prop)(A:Option Addr)(hA:(if cap=j then some (⟨b,0,none⟩:Addr)else some ⟨b,j*3,none⟩)=A)
    (W1:World) (hap:∀ty,(Builtin.append_ #[29,29] ty #[.slice (some ⟨b,0,none⟩) i cap,.slice A (n - j) (cap - j)]).run Tryz.prog w.drew= .ok (.slice (some ⟨b,0,none⟩) (i+(n - j)) cap) W1)
    (W2:World) (hcl:∀ty,(Builtin.clear_ #[29] ty #[.slice (some ⟨b,(i+(n - j))*3,none⟩) (n - (i+(n - j))) (cap - (i+(n - j)))]).run Tryz.prog W1= .ok (.tuple #[]) W2)
    (hQ:Q (.returned (.slice (some ⟨b,0,none⟩) (i+(n - j)) cap)) W2):Calls Tryz.prog 205 #[.slice (some ⟨b,0,none⟩) n cap,.int .i64 i,.int .i64 j] w Q:=by
  have hne:¬(i=j):=by omega
  have hic:i≤cap:=by omega
  have hjc:j≤cap:=by omega
  have mixed:Tryz.prog.follows .mixedOrders=true:=by kernel_rfl
  go_enter Tryz.func205,Tryz.ntmps205
  go_wp2_with fail
  go_region_law_o (refine B1p rfl (A74 (.tmp 22) (.tmp 25) 29 29 rfl (.slice (some ⟨b,0,none⟩) i cap) (.slice A (n - j) (cap - j)) (by simp[Act.eval,Act.put]) (by simp[Act.eval,Act.put]) (hap _) ?_))
  go_wp2_with (at_builtin;refine B0y rfl (.tmp 31) 29 rfl _ rfl (hcl _) ?_)
  all_goals exact hQ
theorem E8k:B1b Tryz.prog 205 29 3:=⟨B1z Tryz.func205 rfl (by kernel_rfl),fun w b cap n i j h1 h2 h3 Q A hA W1 hap W2 hcl hQ=>F02 w b cap n i j h1 h2 h3 Q A hA W1 hap W2 hcl hQ⟩
set_option maxHeartbeats 4000000 in
set_option maxRecDepth 1000000 in
theorem E8u (w:World)(b cap n vc:Nat)(va:Addr)(hn:n≤cap)(hbig:n+1≤4611686018427387904)(Q:Ending→World→Prop)(R:Value)(W1:World)
    (hap:∀ty,(Builtin.append_ #[59,59] ty #[.slice (some ⟨b,0,none⟩) n cap,.slice (some va) 1 vc]).run Tryz.prog w= .ok R W1) (hQ:Q (.returned R) W1):
    Calls Tryz.prog 208 #[.slice (some ⟨b,0,none⟩) n cap,.int .i64 n,.slice (some va) 1 vc] w Q:=by
  have mixed:Tryz.prog.follows .mixedOrders=true:=by kernel_rfl
  go_enter Tryz.func208,Tryz.ntmps208
  go_wp2_with (at_builtin;refine B0f rfl (.tmp 23) (.tmp 24) 59 59 rfl _ _ rfl rfl (hap _) ?_)
  all_goals exact hQ
set_option maxHeartbeats 4000000 in
set_option maxRecDepth 1000000 in
theorem E90 (w:World)(vc:Nat)(va:Addr)(Q:Ending→World→Prop)(R:Value)(W1:World)(hap:∀ty,(Builtin.append_ #[59,59] ty #[.slice none 0 0,.slice (some va) 1 vc]).run Tryz.prog w= .ok R W1)(hQ:Q (.returned R) W1):
    Calls Tryz.prog 208 #[.slice none 0 0,.int .i64 0,.slice (some va) 1 vc] w Q:=by
  have mixed:Tryz.prog.follows .mixedOrders=true:=by kernel_rfl
  go_enter Tryz.func208,Tryz.ntmps208
  go_wp2_with (at_builtin;refine B0f rfl (.tmp 23) (.tmp 24) 59 59 rfl _ _ rfl rfl (hap _) ?_)
  all_goals exact hQ
set_option maxHeartbeats 4000000 in
set_option maxRecDepth 1000000 in
theorem E8x (w:World)(b cap n i vc N G:Nat)(va:Addr)(hi:i<n)(hn:n≤cap)(hg:cap<n+1)(hG:n+1≤G)(hbig:n+1≤4611686018427387904)(Q:Ending→World→Prop)(W1 W2 W3:World)
    (hap:∀ty,(Builtin.append_ #[59,3] ty #[.slice (some ⟨b,0,none⟩) i cap,.int .i64 (n+1 - i)]).run Tryz.prog w= .ok (.slice (some ⟨N,0,none⟩) (n+1) G) W1)
    (hc1:∀ty,(Builtin.copy_ #[59,59] ty #[.slice (some ⟨N,i,none⟩) (n+1 - i) (G - i),.slice (some va) 1 vc]).run Tryz.prog W1= .ok (.int .i64 1) W2)
    (hc2:∀ty,(Builtin.copy_ #[59,59] ty #[.slice (some ⟨N,i+1,none⟩) (n - i) (G - (i+1)),.slice (some ⟨b,i,none⟩) (n - i) (cap - i)]).run Tryz.prog W2.drew= .ok (.int .i64 (n - i)) W3)
    (hQ:Q (.returned (.slice (some ⟨N,0,none⟩) (n+1) G)) W3):Calls Tryz.prog 208 #[.slice (some ⟨b,0,none⟩) n cap,.int .i64 i,.slice (some va) 1 vc] w Q:=by
  have mixed:Tryz.prog.follows .mixedOrders=true:=by kernel_rfl
  have hz2:¬((i:Int)=(n:Int)):=by omega
  have hz3:(cap:Int)<(n:Int)+1:=by omega
  have hw1:IntKind.i64.wrap ((i:Int)+1)=(i:Int)+1:=by rw[IntKind.wrap_i64];omega
  have hw2:IntKind.i64.wrap ((n:Int)+1)=(n:Int)+1:=by rw[IntKind.wrap_i64];omega
  have hw3:IntKind.i64.wrap ((n:Int)+1 - i)=(n:Int)+1 - i:=by rw[IntKind.wrap_i64];omega
  have hb1:(0:Int)≤(i:Int)+1:=by omega
  have hin:i≤n:=by omega
  have hin2:(i:Int)≤(n:Int)+1:=by omega
  have hic:¬(cap=i):=by omega
  have hGi:¬(G=i):=by omega
  have hGi1:¬(G=i+1):=by omega
  go_enter Tryz.func208,Tryz.ntmps208
  go_wp2_with (first
    |(at_builtin;refine B0f rfl (.tmp 34) (.tmp 39) 59 3 rfl _ _ rfl rfl (hap _) ?_)
    |(at_builtin;refine B19 rfl (.tmp 43) (.tmp 44) 59 59 rfl _ _ rfl rfl (hc1 _) ?_))
  go_region_law_o (refine B1p rfl (A9i (.tmp 50) (.tmp 53) 59 59 rfl (.slice (some ⟨N,i+1,none⟩) (n - i) (G - (i+1))) (.slice (some ⟨b,i,none⟩) (n - i) (cap - i)) (by simp[Act.eval,Act.put]) (by simp[Act.eval,Act.put]) (hc2 _) ?_))
  go_wp2
  all_goals exact hQ
set_option maxHeartbeats 4000000 in
set_option maxRecDepth 1000000 in
theorem E93 (w:World)(b cap n i vc:Nat)(va:Addr)(hi:i<n)(hn:n+1≤cap)(hbig:n+1≤4611686018427387904)(Q:Ending→World→Prop)
    (hov:(callFunc 239 #[.slice (some va) 1 vc,.slice (some ⟨b,i+1,none⟩) (n - i) (cap - (i+1))]).run Tryz.prog w= .ok (.value (.bool false)) w) (W1 W2:World)
    (hc1:∀ty,(Builtin.copy_ #[59,59] ty #[.slice (some ⟨b,i+1,none⟩) (n - i) (cap - (i+1)),.slice (some ⟨b,i,none⟩) (n+1 - i) (cap - i)]).run Tryz.prog w.drew= .ok (.int .i64 (n - i)) W1)
    (hc2:∀ty,(Builtin.copy_ #[59,59] ty #[.slice (some ⟨b,i,none⟩) (n+1 - i) (cap - i),.slice (some va) 1 vc]).run Tryz.prog W1= .ok (.int .i64 1) W2)
    (hQ:Q (.returned (.slice (some ⟨b,0,none⟩) (n+1) cap)) W2):Calls Tryz.prog 208 #[.slice (some ⟨b,0,none⟩) n cap,.int .i64 i,.slice (some va) 1 vc] w Q:=by
  have mixed:Tryz.prog.follows .mixedOrders=true:=by kernel_rfl
  have hz2:¬((i:Int)=(n:Int)):=by omega
  have hz3:¬(cap:Int)<(n:Int)+1:=by omega
  have hw1:IntKind.i64.wrap ((i:Int)+1)=(i:Int)+1:=by rw[IntKind.wrap_i64];omega
  have hw2:IntKind.i64.wrap ((n:Int)+1)=(n:Int)+1:=by rw[IntKind.wrap_i64];omega
  have hb1:(0:Int)≤(i:Int)+1:=by omega
  have hin:i≤n:=by omega
  have hin2:(i:Int)≤(n:Int)+1:=by omega
  have hic:¬(cap=i):=by omega
  have hic1:¬(cap=i+1):=by omega
  go_enter Tryz.func208,Tryz.ntmps208
  go_wp2_with (simp only[hov])
  go_region_law_o (refine B1p rfl (A9i (.tmp 73) (.tmp 76) 59 59 rfl (.slice (some ⟨b,i+1,none⟩) (n - i) (cap - (i+1))) (.slice (some ⟨b,i,none⟩) (n+1 - i) (cap - i)) (by simp[Act.eval,Act.put]) (by simp[Act.eval,Act.put]) (hc1 _) ?_))
  go_wp2_with (at_builtin;refine B19 rfl (.tmp 80) (.tmp 81) 59 59 rfl _ _ rfl rfl (hc2 _) ?_)
  all_goals exact hQ
theorem E96:B1c Tryz.prog 208 239 59 4 3 1:=⟨B1z Tryz.func208 rfl (by kernel_rfl),fun args w=>run_callFunc_extern Tryz.func239 (by kernel_rfl) (by kernel_rfl) (by kernel_rfl) (by kernel_rfl) args w,E90,E8u,
  fun w b cap n i vc N G va h1 h2 h3 h4 h5 Q W1 W2 W3 e1 e2 e3 hQ=>E8x w b cap n i vc N G va h1 h2 h3 h4 h5 Q W1 W2 W3 e1 (by simpa only[Nat.mul_one]using e2) (by simpa only[Nat.mul_one]using e3) hQ,
  fun w b cap n i vc va h1 h2 h3 Q e0 W1 W2 e1 e2 hQ=>E93 w b cap n i vc va h1 h2 h3 Q (by simpa only[Nat.mul_one]using e0) W1 W2 (by simpa only[Nat.mul_one]using e1) (by simpa only[Nat.mul_one]using e2) hQ⟩
set_option maxHeartbeats 4000000 in
set_option maxRecDepth 1000000 in
theorem F00 (w:World)(b cap n i j:Nat)(hij:i<j)(hj:j≤n)(hn:n≤cap)(Q:Ending→World→Prop)(A:Option Addr)(hA:(if cap=j then some (⟨b,0,none⟩:Addr)else some ⟨b,j,none⟩)=A)
    (W1:World) (hap:∀ty,(Builtin.append_ #[59,59] ty #[.slice (some ⟨b,0,none⟩) i cap,.slice A (n - j) (cap - j)]).run Tryz.prog w.drew= .ok (.slice (some ⟨b,0,none⟩) (i+(n - j)) cap) W1)
    (W2:World) (hcl:∀ty,(Builtin.clear_ #[59] ty #[.slice (some ⟨b,i+(n - j),none⟩) (n - (i+(n - j))) (cap - (i+(n - j)))]).run Tryz.prog W1= .ok (.tuple #[]) W2)
    (hQ:Q (.returned (.slice (some ⟨b,0,none⟩) (i+(n - j)) cap)) W2):Calls Tryz.prog 143 #[.slice (some ⟨b,0,none⟩) n cap,.int .i64 i,.int .i64 j] w Q:=by
  have hne:¬(i=j):=by omega
  have hic:i≤cap:=by omega
  have hjc:j≤cap:=by omega
  have mixed:Tryz.prog.follows .mixedOrders=true:=by kernel_rfl
  go_enter Tryz.func143,Tryz.ntmps143
  go_wp2_with fail
  go_region_law_o (refine B1p rfl (A74 (.tmp 22) (.tmp 25) 59 59 rfl (.slice (some ⟨b,0,none⟩) i cap) (.slice A (n - j) (cap - j)) (by simp[Act.eval,Act.put]) (by simp[Act.eval,Act.put]) (hap _) ?_))
  go_wp2_with (at_builtin;refine B0y rfl (.tmp 31) 59 rfl _ rfl (hcl _) ?_)
  all_goals exact hQ
theorem E8i:B1b Tryz.prog 143 59 1:=⟨B1z Tryz.func143 rfl (by kernel_rfl),fun w b cap n i j h1 h2 h3 Q A hA W1 hap W2 hcl hQ=>F00 w b cap n i j h1 h2 h3 Q A (by simpa only[Nat.mul_one]using hA) W1 hap W2 (by simpa only[Nat.mul_one]using hcl) hQ⟩
section
open Go.Shelf
def E5n:Go.Shelf.Ren:=⟨fun|190=>54|125=>118|258=>117|128=>192|129=>193|302=>183|303=>184|304=>185|305=>186|306=>187|307=>188|308=>189|309=>190|310=>191|333=>228|329=>229|330=>230|334=>231|335=>232|336=>233|344=>244|n=>n,fun|31=>33|9=>9|3=>3|46=>133|0=>0|51=>183|53=>185|4=>4|183=>175|182=>174|131=>180|5=>5|218=>209|222=>213|228=>218|229=>219|n=>n,fun|n=>n⟩
theorem E7b:Go.Proofs.Lays.n190 Tryz.prog E5n where
  mixed:=by kernel_rfl
  f125:=Tryz.func118.trans (congrArg some (by kernel_rfl))
  f128:=Tryz.func192.trans (congrArg some (by kernel_rfl))
  f129:=Tryz.func193.trans (congrArg some (by kernel_rfl))
  f190:=Tryz.func54.trans (congrArg some (by kernel_rfl))
  f258:=Tryz.func117.trans (congrArg some (by kernel_rfl))
  f302:=Tryz.func183.trans (congrArg some (by kernel_rfl))
  f303:=Tryz.func184.trans (congrArg some (by kernel_rfl))
  f304:=Tryz.func185.trans (congrArg some (by kernel_rfl))
  f305:=Tryz.func186.trans (congrArg some (by kernel_rfl))
  f306:=Tryz.func187.trans (congrArg some (by kernel_rfl))
  f307:=Tryz.func188.trans (congrArg some (by kernel_rfl))
  f308:=Tryz.func189.trans (congrArg some (by kernel_rfl))
  f309:=Tryz.func190.trans (congrArg some (by kernel_rfl))
  f310:=Tryz.func191.trans (congrArg some (by kernel_rfl))
  f329:=Tryz.func229.trans (congrArg some (by kernel_rfl))
  f330:=Tryz.func230.trans (congrArg some (by kernel_rfl))
  f333:=Tryz.func228.trans (congrArg some (by kernel_rfl))
  f334:=Tryz.func231.trans (congrArg some (by kernel_rfl))
  f335:=Tryz.func232.trans (congrArg some (by kernel_rfl))
  f336:=Tryz.func233.trans (congrArg some (by kernel_rfl))
  f344:=Tryz.func244.trans (congrArg some (by kernel_rfl))
  t0:=Tryz.underlying0
  a0:=Tryz.isAgg0
  z0:=Tryz.sizeOf0
  v0:=Tryz.zeroValue0
  t3:=Tryz.underlying3
  a3:=Tryz.isAgg3
  z3:=Tryz.sizeOf3
  v3:=Tryz.zeroValue3
  t4:=Tryz.underlying4
  a4:=Tryz.isAgg4
  z4:=Tryz.sizeOf4
  v4:=Tryz.zeroValue4
  t5:=Tryz.underlying5
  a5:=Tryz.isAgg5
  z5:=Tryz.sizeOf5
  v5:=Tryz.zeroValue5
  t9:=Tryz.underlying9
  a9:=Tryz.isAgg9
  z9:=Tryz.sizeOf9
  v9:=Tryz.zeroValue9
  t31:=Tryz.underlying33
  a31:=Tryz.isAgg33
  z31:=Tryz.sizeOf33
  v31:=Tryz.zeroValue33
  t46:=Tryz.underlying133
  a46:=Tryz.isAgg133
  z46:=Tryz.sizeOf133
  v46:=Tryz.zeroValue133
  t51:=Tryz.underlying183
  a51:=Tryz.isAgg183
  z51:=Tryz.sizeOf183
  v51:=Tryz.zeroValue183
  t53:=Tryz.underlying185
  a53:=Tryz.isAgg185
  z53:=Tryz.sizeOf185
  v53:=Tryz.zeroValue185
  t131:=Tryz.underlying180
  a131:=Tryz.isAgg180
  z131:=Tryz.sizeOf180
  v131:=Tryz.zeroValue180
  t182:=Tryz.underlying174
  a182:=Tryz.isAgg174
  z182:=Tryz.sizeOf174
  v182:=Tryz.zeroValue174
  t183:=Tryz.underlying175
  a183:=Tryz.isAgg175
  z183:=Tryz.sizeOf175
  v183:=Tryz.zeroValue175
  t218:=Tryz.underlying209
  a218:=Tryz.isAgg209
  z218:=Tryz.sizeOf209
  v218:=Tryz.zeroValue209
  t222:=Tryz.underlying213
  a222:=Tryz.isAgg213
  z222:=Tryz.sizeOf213
  v222:=Tryz.zeroValue213
  t228:=Tryz.underlying218
  a228:=Tryz.isAgg218
  z228:=Tryz.sizeOf218
  v228:=Tryz.zeroValue218
  t229:=Tryz.underlying219
  a229:=Tryz.isAgg219
  z229:=Tryz.sizeOf219
  v229:=Tryz.zeroValue219
theorem E9m:B09 Tryz.prog 54:=⟨B1z Tryz.func54 rfl (by kernel_rfl),fun p cap w=>Any.slices_Sort_string_none E7b p cap w,fun b off cap ss w h1 h2 h3=>Any.slices_Sort_string E7b b off cap ss w h1 h2 h3⟩
end
end
end Go.Proofs.YtalmhjlcjcnidaaGreat.Ev

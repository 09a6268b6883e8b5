/- The walks through the functions of the library that are told by contracts of their own, for the law FnUndo. -/
import Derived.Test.YtalmhjlcjcnidaaEvWalk
import Derived.Test.YtalmhjlcjcnidaaEvRaw
import Derived.Test.YtalmhjlcjcnidaaChecked
set_option linter.all false
namespace Go.Proofs.Ytalmhjlcjcnidaa.Ev
open Go Go.Proofs
section
open Go.RowKit
set_option maxHeartbeats 4000000 in
set_option maxRecDepth 1000000 in
theorem C6p (w:World)(b cap n vc:Nat)(va:Addr)(hn:n≤cap)(hbig:n+1≤4611686018427387904)(Q:Ending→World→Prop)(R:Value)(W1:World)
    (hap:∀ty,(Builtin.append_ #[27,27] ty #[.slice (some ⟨b,0,none⟩) n cap,.slice (some va) 1 vc]).run Try.prog w= .ok R W1) (hQ:Q (.returned R) W1):
    Calls Try.prog 64 #[.slice (some ⟨b,0,none⟩) n cap,.int .i64 n,.slice (some va) 1 vc] w Q:=by
  have mixed:Try.prog.follows .mixedOrders=true:=by kernel_rfl
  go_enter Try.func64,Try.ntmps64
  go_wp2_with (at_builtin;refine B0f rfl (.tmp 23) (.tmp 24) 27 27 rfl _ _ rfl rfl (hap _) ?_)
  all_goals exact hQ
set_option maxHeartbeats 4000000 in
set_option maxRecDepth 1000000 in
theorem C6r (w:World)(vc:Nat)(va:Addr)(Q:Ending→World→Prop)(R:Value)(W1:World)(hap:∀ty,(Builtin.append_ #[27,27] ty #[.slice none 0 0,.slice (some va) 1 vc]).run Try.prog w= .ok R W1)(hQ:Q (.returned R) W1):
    Calls Try.prog 64 #[.slice none 0 0,.int .i64 0,.slice (some va) 1 vc] w Q:=by
  have mixed:Try.prog.follows .mixedOrders=true:=by kernel_rfl
  go_enter Try.func64,Try.ntmps64
  go_wp2_with (at_builtin;refine B0f rfl (.tmp 23) (.tmp 24) 27 27 rfl _ _ rfl rfl (hap _) ?_)
  all_goals exact hQ
set_option maxHeartbeats 4000000 in
set_option maxRecDepth 1000000 in
theorem C6q (w:World)(b cap n i vc N G:Nat)(va:Addr)(hi:i<n)(hn:n≤cap)(hg:cap<n+1)(hG:n+1≤G)(hbig:n+1≤4611686018427387904)(Q:Ending→World→Prop)(W1 W2 W3:World)
    (hap:∀ty,(Builtin.append_ #[27,3] ty #[.slice (some ⟨b,0,none⟩) i cap,.int .i64 (n+1 - i)]).run Try.prog w= .ok (.slice (some ⟨N,0,none⟩) (n+1) G) W1)
    (hc1:∀ty,(Builtin.copy_ #[27,27] ty #[.slice (some ⟨N,i,none⟩) (n+1 - i) (G - i),.slice (some va) 1 vc]).run Try.prog W1= .ok (.int .i64 1) W2)
    (hc2:∀ty,(Builtin.copy_ #[27,27] ty #[.slice (some ⟨N,i+1,none⟩) (n - i) (G - (i+1)),.slice (some ⟨b,i,none⟩) (n - i) (cap - i)]).run Try.prog W2.drew= .ok (.int .i64 (n - i)) W3)
    (hQ:Q (.returned (.slice (some ⟨N,0,none⟩) (n+1) G)) W3):Calls Try.prog 64 #[.slice (some ⟨b,0,none⟩) n cap,.int .i64 i,.slice (some va) 1 vc] w Q:=by
  have mixed:Try.prog.follows .mixedOrders=true:=by kernel_rfl
  have hz2:¬((i:Int)=(n:Int)):=by omega
  have hz3:(cap:Int)<(n:Int)+1:=by omega
  have hw1:IntKind.i64.wrap ((i:Int)+1)=(i:Int)+1:=by rw[IntKind.wrap_i64];omega
  have hw2:IntKind.i64.wrap ((n:Int)+1)=(n:Int)+1:=by rw[IntKind.wrap_i64];omega
  have hw3:IntKind.i64.wrap ((n:Int)+1 - i)=(n:Int)+1 - i:=by rw[IntKind.wrap_i64];omega
  have hb1:(0:Int)≤(i:Int)+1:=by omega
  have hin:i≤n:=by omega
  have hin2:(i:Int)≤(n:Int)+1:=by omega
  have hic:¬(cap=i):=by omega
  have hGi:¬(G=i):=by omega
  have hGi1:¬(G=i+1):=by omega
  go_enter Try.func64,Try.ntmps64
  go_wp2_with (first
    |(at_builtin;refine B0f rfl (.tmp 34) (.tmp 39) 27 3 rfl _ _ rfl rfl (hap _) ?_)
    |(at_builtin;refine B19 rfl (.tmp 43) (.tmp 44) 27 27 rfl _ _ rfl rfl (hc1 _) ?_))
  go_region_law_o (refine B1p rfl (A9i (.tmp 50) (.tmp 53) 27 27 rfl (.slice (some ⟨N,i+1,none⟩) (n - i) (G - (i+1))) (.slice (some ⟨b,i,none⟩) (n - i) (cap - i)) (by simp[Act.eval,Act.put]) (by simp[Act.eval,Act.put]) (hc2 _) ?_))
  go_wp2
  all_goals exact hQ
set_option maxHeartbeats 4000000 in
set_option maxRecDepth 1000000 in
theorem C6s (w:World)(b cap n i vc:Nat)(va:Addr)(hi:i<n)(hn:n+1≤cap)(hbig:n+1≤4611686018427387904)(Q:Ending→World→Prop)
    (hov:(callFunc 101 #[.slice (some va) 1 vc,.slice (some ⟨b,i+1,none⟩) (n - i) (cap - (i+1))]).run Try.prog w= .ok (.value (.bool false)) w) (W1 W2:World)
    (hc1:∀ty,(Builtin.copy_ #[27,27] ty #[.slice (some ⟨b,i+1,none⟩) (n - i) (cap - (i+1)),.slice (some ⟨b,i,none⟩) (n+1 - i) (cap - i)]).run Try.prog w.drew= .ok (.int .i64 (n - i)) W1)
    (hc2:∀ty,(Builtin.copy_ #[27,27] ty #[.slice (some ⟨b,i,none⟩) (n+1 - i) (cap - i),.slice (some va) 1 vc]).run Try.prog W1= .ok (.int .i64 1) W2)
    (hQ:Q (.returned (.slice (some ⟨b,0,none⟩) (n+1) cap)) W2):Calls Try.prog 64 #[.slice (some ⟨b,0,none⟩) n cap,.int .i64 i,.slice (some va) 1 vc] w Q:=by
  have mixed:Try.prog.follows .mixedOrders=true:=by kernel_rfl
  have hz2:¬((i:Int)=(n:Int)):=by omega
  have hz3:¬(cap:Int)<(n:Int)+1:=by omega
  have hw1:IntKind.i64.wrap ((i:Int)+1)=(i:Int)+1:=by rw[IntKind.wrap_i64];omega
  have hw2:IntKind.i64.wrap ((n:Int)+1)=(n:Int)+1:=by rw[IntKind.wrap_i64];omega
  have hb1:(0:Int)≤(i:Int)+1:=by omega
  have hin:i≤n:=by omega
  have hin2:(i:Int)≤(n:Int)+1:=by omega
  have hic:¬(cap=i):=by omega
  have hic1:¬(cap=i+1):=by omega
  go_enter Try.func64,Try.ntmps64
  go_wp2_with (simp only[hov])
  go_region_law_o (refine B1p rfl (A9i (.tmp 73) (.tmp 76) 27 27 rfl (.slice (some ⟨b,i+1,none⟩) (n - i) (cap - (i+1))) (.slice (some ⟨b,i,none⟩) (n+1 - i) (cap - i)) (by simp[Act.eval,Act.put]) (by simp[Act.eval,Act.put]) (hc1 _) ?_))
  go_wp2_with (at_builtin;refine B19 rfl (.tmp 80) (.tmp 81) 27 27 rfl _ _ rfl rfl (hc2 _) ?_)
  all_goals exact hQ
theorem C6t:B1c Try.prog 64 101 27 4 3 1:=⟨B1z Try.func64 rfl (by kernel_rfl),fun args w=>run_callFunc_extern Try.func101 (by kernel_rfl) (by kernel_rfl) (by kernel_rfl) (by kernel_rfl) args w,C6r,C6p,
  fun w b cap n i vc N G va h1 h2 h3 h4 h5 Q W1 W2 W3 e1 e2 e3 hQ=>C6q w b cap n i vc N G va h1 h2 h3 h4 h5 Q W1 W2 W3 e1 (by simpa only[Nat.mul_one]using e2) (by simpa only[Nat.mul_one]using e3) hQ,
  fun w b cap n i vc va h1 h2 h3 Q e0 W1 W2 e1 e2 hQ=>C6s w b cap n i vc va h1 h2 h3 Q (by simpa only[Nat.mul_one]using e0) W1 W2 (by simpa only[Nat.mul_one]using e1) (by simpa only[Nat.mul_one]using e2) hQ⟩
set_option maxHeartbeats 4000000 in
set_option maxRecDepth 1000000 in
theorem C79 (w:World)(b cap n i j:Nat)(hij:i<j)(hj:j≤n)(hn:n≤cap)(Q:Ending→World→Prop)(A:Option Addr)(hA:(if cap=j then some (⟨b,0,none⟩:Addr)else some ⟨b,j,none⟩)=A)
    (W1:World) (hap:∀ty,(Builtin.append_ #[27,27] ty #[.slice (some ⟨b,0,none⟩) i cap,.slice A (n - j) (cap - j)]).run Try.prog w.drew= .ok (.slice (some ⟨b,0,none⟩) (i+(n - j)) cap) W1)
    (W2:World) (hcl:∀ty,(Builtin.clear_ #[27] ty #[.slice (some ⟨b,i+(n - j),none⟩) (n - (i+(n - j))) (cap - (i+(n - j)))]).run Try.prog W1= .ok (.tuple #[]) W2)
    (hQ:Q (.returned (.slice (some ⟨b,0,none⟩) (i+(n - j)) cap)) W2):Calls Try.prog 32 #[.slice (some ⟨b,0,none⟩) n cap,.int .i64 i,.int .i64 j] w Q:=by
  have hne:¬(i=j):=by omega
  have hic:i≤cap:=by omega
  have hjc:j≤cap:=by omega
  have mixed:Try.prog.follows .mixedOrders=true:=by kernel_rfl
  go_enter Try.func32,Try.ntmps32
  go_wp2_with fail
  go_region_law_o (refine B1p rfl (A74 (.tmp 22) (.tmp 25) 27 27 rfl (.slice (some ⟨b,0,none⟩) i cap) (.slice A (n - j) (cap - j)) (by simp[Act.eval,Act.put]) (by simp[Act.eval,Act.put]) (hap _) ?_))
  go_wp2_with (at_builtin;refine B0y rfl (.tmp 31) 27 rfl _ rfl (hcl _) ?_)
  all_goals exact hQ
theorem C6l:B1b Try.prog 32 27 1:=⟨B1z Try.func32 rfl (by kernel_rfl),fun w b cap n i j h1 h2 h3 Q A hA W1 hap W2 hcl hQ=>C79 w b cap n i j h1 h2 h3 Q A (by simpa only[Nat.mul_one]using hA) W1 hap W2 (by simpa only[Nat.mul_one]using hcl) hQ⟩
end
end Go.Proofs.Ytalmhjlcjcnidaa.Ev

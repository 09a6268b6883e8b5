/- Steps of a walk whose run is known by an equation. -/
import Derived.Test.YtalmhjlcjcnidaaEvShape
import Derived.WalkKit
import Derived.Shelf.RegionOpenPlain
import Derived.Deep.LoopGhost
import Derived.Deep.RegionLaw
import Derived.Lib.Walk
import Derived.Lib.SliceRun
set_option linter.all false
set_option linter.all false
namespace Go.Proofs.Ytalmhjlcjcnidaa.Ev
open Go Go.RowKit
section
variable {P:Program} {ops:Array Oper} {o:Oper} {a:Act} {w w':World} {K:Act→World→Prop} {Q:Exit→Act→World→Prop} {E:Prop} {v':Value}
theorem A74 (d x:Operand)(dT sT:TypeId)(hop:o.op=Op.call {callee:=Callee.builtin .append,args:=#[d,x],argTypes:=#[dT,sT]})
  (v u:Value) (hd:a.eval d=v) (hx:a.eval x=u) (hr:(Builtin.append_ #[dT,sT] o.type #[v,u]).run P w= .ok v' w') (hK:K (a.put o.dst v') w'):Oper.wp P o a w K Q:=by
 unfold Oper.wp
 simp[execOp,hop,resolve,invoke,builtin,hd,hx,hr,Result.andThen]
 exact hK
theorem A9i (d x:Operand)(dT sT:TypeId)(hop:o.op=Op.call {callee:=Callee.builtin .copy,args:=#[d,x],argTypes:=#[dT,sT]})
  (v u:Value) (hd:a.eval d=v) (hx:a.eval x=u) (hr:(Builtin.copy_ #[dT,sT] o.type #[v,u]).run P w= .ok v' w') (hK:K (a.put o.dst v') w'):Oper.wp P o a w K Q:=by
 unfold Oper.wp
 simp[execOp,hop,resolve,invoke,builtin,hd,hx,hr,Result.andThen]
 exact hK
theorem A8a (x:Operand)(sT:TypeId)(hop:o.op=Op.call {callee:=Callee.builtin .clear,args:=#[x],argTypes:=#[sT]})
  (u:Value) (hx:a.eval x=u) (hr:(Builtin.clear_ #[sT] o.type #[u]).run P w= .ok v' w') (hK:K (a.put o.dst v') w'):Oper.wp P o a w K Q:=by
 unfold Oper.wp
 simp[execOp,hop,resolve,invoke,builtin,hx,hr,Result.andThen]
 exact hK
theorem B0f {rest:List Oper}{Q:Exit→Act→World→Prop}(hgd:o.guard=none)(d x:Operand)(dT sT:TypeId)(hop:o.op=Op.call {callee:=Callee.builtin .append,args:=#[d,x],argTypes:=#[dT,sT]})
  (v u:Value) (hd:a.eval d=v) (hx:a.eval x=u) (hr:(Builtin.append_ #[dT,sT] o.type #[v,u]).run P w= .ok v' w') (h:wpList P ops Q rest (a.put o.dst v') w'):wpList P ops Q (o::rest) a w:=
 wpList_plain hgd fun _ hK=>A74 d x dT sT hop v u hd hx hr (hK _ _ h)
theorem B19 {rest:List Oper}{Q:Exit→Act→World→Prop}(hgd:o.guard=none)(d x:Operand)(dT sT:TypeId)(hop:o.op=Op.call {callee:=Callee.builtin .copy,args:=#[d,x],argTypes:=#[dT,sT]})
  (v u:Value) (hd:a.eval d=v) (hx:a.eval x=u) (hr:(Builtin.copy_ #[dT,sT] o.type #[v,u]).run P w= .ok v' w') (h:wpList P ops Q rest (a.put o.dst v') w'):wpList P ops Q (o::rest) a w:=
 wpList_plain hgd fun _ hK=>A9i d x dT sT hop v u hd hx hr (hK _ _ h)
theorem B0y {rest:List Oper}{Q:Exit→Act→World→Prop}(hgd:o.guard=none)(x:Operand)(sT:TypeId)(hop:o.op=Op.call {callee:=Callee.builtin .clear,args:=#[x],argTypes:=#[sT]})
  (u:Value) (hx:a.eval x=u) (hr:(Builtin.clear_ #[sT] o.type #[u]).run P w= .ok v' w') (h:wpList P ops Q rest (a.put o.dst v') w'):wpList P ops Q (o::rest) a w:=
 wpList_plain hgd fun _ hK=>A8a x sT hop u hx hr (hK _ _ h)
theorem B1p (hg:o.guard=none)(h:Oper.wp P o a w K Q):if Region.wanted o (yielded ops a.tmps)=true then Oper.wp P o a w K Q else E:=by
 rw[if_pos (by simp[Region.wanted,hg])];exact h
end
end Go.Proofs.Ytalmhjlcjcnidaa.Ev

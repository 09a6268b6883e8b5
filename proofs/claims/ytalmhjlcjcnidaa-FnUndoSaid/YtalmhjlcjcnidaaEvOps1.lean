/- Operations that only compute: what the evaluator says of them, the model does. -/
import Derived.Test.YtalmhjlcjcnidaaEvSim
set_option linter.all false
namespace Go.Proofs.Ytalmhjlcjcnidaa.Ev
open Go

def B3:Kd→List Value
 | .int k=>[.int k 0]
 | .bool=>[.bool false]
 | .str=>[.string ⟨#[]⟩]
 | .sl _=>[.slice none 0 0]
 | .pair a b=>B3 a++B3 b
def T5 (P:Program)(e:TypeId)(f:Kd)(eb:Nat):Prop:=
 ∃j z,P.info? e=some j∧j.size=f.size∧j.bytes=eb∧j.zero=some z∧z.cells.toList=B3 f
def U7 (P:Program)(i:Ti):TypeDesc→Prop
 | .int k=>i.kd= .int k∧i.agg=false∧i.offs=[]
 | .bool=>i.kd= .bool∧i.agg=false∧i.offs=[]
 | .string=>i.kd= .str∧i.agg=false∧i.offs=[]
 | .slice e=>∃f,i.kd= .sl f∧(i.agg=false∧i.offs=[])∧T5 P e f i.eb
 | .struct fs=>i.agg=true∧i.offs=fs.toList.map (fun f=>(f.offset,P.cellsOf f.type))∧∀f∈fs.toList,∃j,P.info? f.type=some j∧j.size≠0
 |_=>False
structure A6n (P:Program) (t:Nat) (i:Ti):Prop where
 info:∃j z,P.info? t=some j∧j.size=i.size∧j.zero=some z∧z.cells.toList=B3 i.kd
 desc:∃d,P.underlying t=some d∧U7 P i d
 size:i.size=i.kd.size
structure B4 (P:Program) (E:Env):Prop where
 ty:∀t i,E.ty t=some i→A6n P t i
 fn:∀g fn,look g E.fnT=some fn→P.funcs[g]?=some fn∧(fn.name== "runtime.NumGoroutine")=false
 mixed:P.follows .mixedOrders=true
 u8:∀t i e,E.ty t=some i→i.kd= .sl (.int .u8)→P.underlying t=some (.slice e)→P.underlying e=some (.int .u8)
def A8h (P:Program)(E:Env)(t:Nat):Kd→Prop
 | .int k=>P.underlying t=some (.int k)
 | .bool=>P.underlying t=some .bool
 | .str=>P.underlying t=some .string
 | .sl f=>∃e i,E.ty t=some i∧P.underlying t=some (.slice e)∧T5 P e f i.eb
 | .pair _ _=>False
theorem B4.pl {P:Program}{E:Env}(hE:B4 P E){t:Nat}{f:Kd}(h:E.pl t=some f):A8h P E t f:=by
 unfold Env.pl at h
 split at h
 ·rename_i i hi
  cases hag:i.agg
  ·simp only[hag,zA]at h
   obtain rfl:=oI h
   obtain⟨d,hd,hok⟩:=(hE.ty t i hi).desc
   cases d<;>simp only[U7]at hok
   case bool=>rw[hok.1];exact hd
   case int k=>rw[hok.1];exact hd
   case string=>rw[hok.1];exact hd
   case slice e=>obtain⟨f,h1,_,h2⟩:=hok;rw[h1];exact⟨e,i,hi,hd,h2⟩
   case struct fs=>rw[hag]at hok;exact absurd hok.1 (by simp)
  ·simp[hag]at h
 ·cases h
theorem B4.isStr {P:Program}{E:Env}(hE:B4 P E){t:Nat}(h:E.isStr t=true):P.underlying t=some .string:=by
 unfold Env.isStr at h
 split at h
 ·rename_i hp;exact hE.pl hp
 ·cases h
theorem B4.isBool {P:Program}{E:Env}(hE:B4 P E){t:Nat}(h:E.isBool t=true):P.underlying t=some .bool:=by
 unfold Env.isBool at h
 split at h
 ·rename_i hp;exact hE.pl hp
 ·cases h
theorem B4.isSl {P:Program}{E:Env}(hE:B4 P E){t:Nat}(h:E.isSl t=true):∃e,P.underlying t=some (.slice e):=by
 unfold Env.isSl at h
 split at h
 ·rename_i hp;obtain⟨e,_,_,h,_⟩:=hE.pl hp;exact⟨e,h⟩
 ·cases h
theorem B4.elemKd {P:Program}{E:Env}(hE:B4 P E){t:Nat}{f:Kd}(h:E.elemKd t=some f):∃e i,E.ty t=some i∧P.underlying t=some (.slice e)∧T5 P e f i.eb:=by
 unfold Env.elemKd at h
 split at h
 ·rename_i hp;obtain rfl:=oI h;exact hE.pl hp
 ·cases h
theorem B4.isEl {P:Program}{E:Env}(hE:B4 P E){t:Nat}{f:Kd}(h:E.isEl t f=true):∃e eb,P.underlying t=some (.slice e)∧T5 P e f eb:=by
 unfold Env.isEl at h
 split at h
 ·rename_i g hp;rw[zG]at h;subst h;obtain⟨e,i,_,h1,h2⟩:=hE.elemKd hp;exact⟨e,i.eb,h1,h2⟩
 ·cases h
theorem B4.el {P:Program}{E:Env}(hE:B4 P E){t:Nat}{f:Kd}{eb:Nat}(h:E.el t=some (f,eb)):∃e,P.underlying t=some (.slice e)∧T5 P e f eb:=by
 unfold Env.el at h
 split at h
 ·rename_i g i h1 h2
  obtain⟨rfl,rfl⟩:=zQ (oI h)
  obtain⟨e,j,h3,h4,h5⟩:=hE.elemKd h1
  rw[h2]at h3;obtain rfl:=oI h3
  exact⟨e,h4,h5⟩
 ·cases h
theorem B4.bytes {P:Program}{E:Env}(hE:B4 P E){t:Nat}(h:E.pl t=some (.sl (.int .u8))):∃e i,E.ty t=some i∧P.underlying t=some (.slice e)∧P.underlying e=some (.int .u8)∧T5 P e (.int .u8) i.eb:=by
 obtain⟨e,i,hi,hu,he⟩:=hE.pl h
 refine⟨e,i,hi,hu,hE.u8 t i e hi ?_ hu,he⟩
 unfold Env.pl at h
 rw[hi]at h
 cases ha:i.agg<;>simp only[ha,zB,zA]at h
 ·exact oI h
 ·cases h
theorem run_typeInfo {P:Program}{w:World}{t:TypeId}{j:TypeInfo}(h:P.info? t=some j):(typeInfo t).run P w= .ok j w:=by simp[typeInfo,h]
theorem run_sizeOf {P:Program}{w:World}{t:TypeId}{j:TypeInfo}(h:P.info? t=some j):(sizeOf t).run P w= .ok j.size w:=by simp[sizeOf,run_typeInfo h]

def B1 (P:Program)(X:Ctx)(o:Oper)(σ':St)(a:Act)(w:World):Prop:=
 ∃v w' G',((execOp a.eval o).run P w= .ok (.value v) w'∨((execOp a.eval o).run P w= .ok .skip w'∧v=undef))∧Sim X σ' (a.put o.dst v) w' G'

section
variable {P:Program} {X:Ctx} {σ σ':St} {a:Act} {w:World} {G:Gh}
theorem S8.undef:S8 X σ w.heap G A1 undef:=Or.inl rfl
theorem Sim.ev (hs:Sim X σ a w G){x:Operand}{av:AV}(h:σ.ev x=some av):
  S8 X σ w.heap G av (a.eval x)∧∀r∈av.refs,∃row,σ.look r=some row:=by
 cases x with
 |tmp t=>
  simp only[St.ev]at h
  obtain rfl:=oI h
  by_cases hi:t<σ.slots.length
  ·exact⟨hs.slot t hi,hs.refs t hi⟩
  ·have e1:σ.slots.getD t A1=A1:=by simp[List.getD,List.getElem?_eq_none (Nat.le_of_not_lt hi)]
   have e2:a.eval (.tmp t)=Go.undef:=by
    have hlen:=hs.len
    simp only[Act.eval,Array.getD]
    rw[dif_neg (by rw[hlen];exact hi)]
   rw[e1,e2]
   exact⟨S8.undef,by simp[AV.refs,AV.leaves,A1,TV.leaves,A0.refs]⟩
 |const v=>
  simp only[St.ev]at h
  have:∀l:A0,X4 v=some (.v (.one l))→l.refs=[]→A5 X σ w.heap G l v→some (AV.v (.one l))=some av→
    S8 X σ w.heap G av (a.eval (.const v))∧∀r∈av.refs,∃row,σ.look r=some row:=by
   intro l _ hr hl e
   obtain rfl:=oI e
   exact⟨Or.inr hl,by simp[AV.refs,AV.leaves,TV.leaves,hr]⟩
  unfold X4 at h
  split at h
  ·exact this _ rfl rfl rfl h
  ·exact this _ rfl rfl rfl h
  ·exact this _ rfl rfl rfl h
  ·exact this _ rfl rfl rfl h
  ·obtain rfl:=oI h
   exact⟨Or.inl rfl,by simp[AV.refs,AV.leaves,A1,TV.leaves,A0.refs]⟩
  ·cases h
 |func f=>
  simp only[St.ev]at h
  obtain rfl:=oI h
  exact⟨Or.inr ⟨[],rfl,.nil⟩,by simp[AV.refs,AV.leaves,TV.leaves,A0.refs]⟩
 |global g=>simp[St.ev]at h
theorem Sim.ev1 (hs:Sim X σ a w G){x:Operand}{l:A0}(h:σ.ev1 x=some l)(hu:l≠ .undef):
  A5 X σ w.heap G l (a.eval x)∧∀r∈l.refs,∃row,σ.look r=some row:=by
 unfold St.ev1 at h
 split at h
 ·rename_i l' hx
  obtain rfl:=oI h
  obtain⟨h1,h2⟩:=hs.ev hx
  refine⟨h1.resolve_left hu,fun r hr=>h2 r ?_⟩
  simpa[AV.refs,AV.leaves,TV.leaves]using hr
 ·cases h
theorem Sim.evT (hs:Sim X σ a w G){x:Operand}{y:TV}(h:σ.evT x=some y):
  L1 X σ w.heap G y (a.eval x)∧A7 (A5 X σ w.heap G) y.leaves (a.eval x).cells.toList∧∀r∈y.leaves.flatMap A0.refs,∃row,σ.look r=some row:=by
 unfold St.evT at h
 split at h
 ·cases h
 ·rename_i y' hn hx
  obtain rfl:=oI h
  obtain⟨h1,h2⟩:=hs.ev hx
  refine⟨h1,?_,h2⟩
  cases y' with
  |one l=>
   rcases h1 with rfl|h1
   ·exact absurd rfl hn
   ·have:=h1.oneCell
    have e:(a.eval x).cells.toList=[a.eval x]:=by
     revert this;cases a.eval x<;>simp[Value.oneCell',Value.cells]
    rw[e];exact .cons h1 .nil
  |agg ls=>
   obtain⟨vs,e,hv⟩:=h1
   rw[e];simpa[Value.cells,TV.leaves]using hv
 ·cases h

theorem B1.put (hs:Sim X σ a w G){o:Oper}{av:AV}{v:Value}(hrun:(execOp a.eval o).run P w= .ok (.value v) w)
  (hv:S8 X σ w.heap G av v) (hr:∀r∈av.refs,∃row,σ.look r=some row):B1 P X o (σ.put o.dst av) a w:=
 ⟨v,w,G,.inl hrun,hs.put hv hr⟩
theorem B1.one (hs:Sim X σ a w G){o:Oper}{v:Value}{c:Bool}{l:A0}(h:σ.put1 o l=some (c,σ'))(hrun:(execOp a.eval o).run P w= .ok (.value v) w)
  (hv:A5 X σ w.heap G l v) (hr:∀r∈l.refs,∃row,σ.look r=some row):B1 P X o σ' a w:=by
 simp only[St.put1,okS]at h
 obtain⟨_,rfl⟩:=zQ (oI h)
 exact B1.put hs hrun (Or.inr hv) (by simpa[AV.refs,AV.leaves,TV.leaves]using hr)
theorem AV.refs_one {l:A0}:(AV.v (.one l)).refs=l.refs:=by simp[AV.refs,AV.leaves,TV.leaves]
theorem Int.dec_le (a b:Int):(a≤b:Bool)=decide (a≤b):=rfl

theorem A86 (hs:Sim X σ a w G){o:Oper}{c x y:Operand}(ho:o.op= .pick c x y)(h:A1z o c x y σ=some (true,σ')):B1 P X o σ' a w:=by
 unfold A1z at h
 have key:∀(b:Bool) (p q:AV),σ.ev1 c=some (.bool b)→σ.ev x=some p→σ.ev y=some q→okS (σ.put o.dst (bif b then p else q))=some (true,σ')→B1 P X o σ' a w:=by
  intro b p q hc hx hy e
  obtain⟨_,rfl⟩:=zQ (oI e)
  have h1:=(hs.ev1 hc (by simp)).1
  have h2:=hs.ev hx
  have h3:=hs.ev hy
  cases b
  ·exact B1.put hs (v:=a.eval y) (by simp only[A5]at h1;simp[execOp,ho,h1,asBool]) h3.1 h3.2
  ·exact B1.put hs (v:=a.eval x) (by simp only[A5]at h1;simp[execOp,ho,h1,asBool]) h2.1 h2.2
 split at h
 ·rename_i b p q hc hx hy
  refine key b _ _ (by assumption) (by assumption) (by assumption) ?_
  rw[←h];cases b<;>rfl
 ·rename_i b p q hc hx hy _
  exact key b _ _ (by assumption) (by assumption) (by assumption) h
 ·cases h
theorem A55 (hs:Sim X σ a w G){o:Oper}{x:Operand}{k:Nat}(ho:o.op= .extract x k)(h:P4 o x k σ=some (true,σ')):B1 P X o σ' a w:=by
 unfold P4 at h
 split at h
 ·rename_i vs hx
  split at h
  ·rename_i y hy
   obtain⟨_,rfl⟩:=zQ (oI h)
   obtain⟨⟨us,e,hu⟩,h2⟩:=hs.ev hx
   obtain⟨u,hu1,hu2⟩:=hu.get hy
   refine B1.put hs (v:=u) (by simp[execOp,ho,e,Instr.extract,hu1]) hu2 fun r hr=>h2 r ?_
   simp only[AV.refs,AV.leaves,zB1]at hr⊢
   obtain⟨l,hl,hr⟩:=hr
   exact⟨l,⟨y,List.mem_of_getElem? hy,hl⟩,hr⟩
  ·cases h
 ·cases h
theorem B01 (hs:Sim X σ a w G){o:Oper}{op:UnOp}{t:TypeId}{x:Operand}(ho:o.op= .unOp op t x)(h:A87 o op x σ=some (true,σ')):B1 P X o σ' a w:=by
 unfold A87 at h
 split at h
 ·rename_i k n hx
  have h1:=(hs.ev1 hx (by simp)).1
  simp only[A5]at h1
  exact B1.one hs h (by simp[execOp,ho,h1,Op.unary,Op.intArith]) rfl (by simp[A0.refs])
 ·rename_i b hx
  have h1:=(hs.ev1 hx (by simp)).1
  simp only[A5]at h1
  exact B1.one hs h (by simp[execOp,ho,h1,Op.unary]) rfl (by simp[A0.refs])
 ·cases h
end
end Go.Proofs.Ytalmhjlcjcnidaa.Ev

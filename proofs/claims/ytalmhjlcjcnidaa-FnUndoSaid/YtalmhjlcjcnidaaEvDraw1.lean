/- Regions whose order is open: an operation does the same where others went before that it knows nothing of. -/
import Derived.Test.YtalmhjlcjcnidaaEvRen
set_option linter.all false
namespace Go.Proofs.Ytalmhjlcjcnidaa.Ev
open Go
def K2 (C:CF):Prop:=∀(R:Type) (g:Nat) (as:List TV) (κ:AV→Option R),C R g as κ=(C AV g as some).bind κ
section
variable {E:Env} {C:CF} {deep:Bool} {σ τ σ':St} {R:Type}
theorem A6p (hC:K2 C)(dst:Option Nat)(g:Nat)(xs:List Operand)(more:List TV)(κ:St→Option R):A2y E C deep dst g xs more σ κ=(A2y E C deep dst g xs more σ some).bind κ:=by
 unfold A2y
 split
 ·rename_i as _
  generalize (distinct _&&S5 _ _&&Nat.ble _ _)=b
  cases b
  ·rfl
  ·simp only[zB]
   rw[hC R,hC St]
   cases C AV g (as++more) some with
   |none=>rfl
   |some out=>
    simp only[zC]
    generalize X7 σ dst _ _ _ _ out=f
    cases f<;>rfl
 ·rfl
theorem A41 (hC:K2 C)(o:Oper)(c:Call)(κ:St→Option R):H1 E C deep o c σ κ=(H1 E C deep o c σ some).bind κ:=by
 unfold H1
 split
 ·split
  ·split
   ·exact A6p hC ..
   ·rfl
  ·rfl
 ·rfl
theorem A2a (hC:K2 C)(o:Oper)(κ:St→Option R):P9 E C deep o σ κ=(P9 E C deep o σ some).bind κ:=by
 unfold P9
 split
 ·exact A41 hC ..
 ·cases R7 E deep o (preOp E deep o σ)with
  |none=>rfl
  |some p=>obtain⟨c,σ'⟩:=p;cases c<;>rfl
theorem A08 (hC:K2 C)(ops:Array Oper)(o:Oper)(κ:St→Option R):G0 E C deep ops o σ κ=(G0 E C deep ops o σ some).bind κ:=by
 unfold G0
 split
 ·exact A2a hC ..
 ·rfl
 ·rename_i d want _
  split
  ·rename_i b _
   cases b<;>cases want<;>simp only[zB,zA]<;>first|exact A2a hC .. |rfl
  ·rfl
  ·rfl
structure Loc (o:Oper) (σ τ:St):Prop where
 ev:∀x∈o.op.operands.toList,τ.ev x=σ.ev x
 look:∀r∈rdOf o σ,τ.look r=σ.look r
 key:∀k∈T1 o.dst,τ.look k=σ.look k
def Tch (E:Env)(o:Oper)(σ σ':St)(r:Nat):Prop:=r∈consOf E o σ∨(σ.look r=none∧σ'.look r≠none)
structure Fx (E:Env) (o:Oper) (σ σ' τ τ':St):Prop where
 av:∃av,σ'.slots=(σ.put o.dst av).slots∧τ'.slots=(τ.put o.dst av).slots
 same:∀r,Tch E o σ σ' r→τ'.look r=σ'.look r
 rest:∀r,¬Tch E o σ σ' r→σ'.look r=σ.look r∧τ'.look r=τ.look r
 pin:σ'.pins=σ.pins∧τ'.pins=τ.pins
theorem B5 (r:Nat):r∈σ.below r:=by unfold St.below;split<;>simp
theorem A9j {o:Oper}{x:Operand}{a:AV}{r:Nat}(hx:x∈o.op.operands.toList)(ha:σ.ev x=some a)(hr:r∈a.refs)(hq0:A8 o=false:=by first|assumption|simp[A8, *]):r∈rdOf o σ:=by
 unfold rdOf
 rw[hq0,zA]
 cases x with
 |tmp t=>
  simp only[St.ev,zO]at ha;subst ha
  have ht:t∈H9 o:=List.mem_filterMap.mpr ⟨.tmp t,hx,rfl⟩
  cases F6 o<;>simp only[zB,zA,zB1]
  ·exact⟨t,ht,r,hr,B5 r⟩
  ·exact⟨t,ht,hr⟩
 |const v=>
  simp only[St.ev]at ha
  unfold X4 at ha
  split at ha<;>first|(obtain rfl:=oI ha;simp[AV.refs,AV.leaves,TV.leaves,A0.refs,A1]at hr;done)|cases ha
 |func f=>
  simp only[St.ev,zO]at ha;subst ha
  simp[AV.refs,AV.leaves,TV.leaves,A0.refs]at hr
 |global g=>cases ha
theorem A4o {o:Oper}{x:Operand}{a:AV}{r q:Nat}(hx:x∈o.op.operands.toList)(ha:σ.ev x=some a)(hr:r∈a.refs)(hq:q∈σ.below r)(hq0:A8 o=false:=by first|assumption|simp[A8, *])(hq1:F6 o=false:=by first|assumption|simp[F6, *]):q∈rdOf o σ:=by
 unfold rdOf
 rw[hq0,zA,hq1,zA]
 cases x with
 |tmp t=>
  simp only[St.ev,zO]at ha;subst ha
  simp only[zB1]
  exact⟨t,List.mem_filterMap.mpr ⟨.tmp t,hx,rfl⟩,r,hr,hq⟩
 |const v=>
  simp only[St.ev]at ha
  unfold X4 at ha
  split at ha<;>first|(obtain rfl:=oI ha;simp[AV.refs,AV.leaves,TV.leaves,A0.refs,A1]at hr;done)|cases ha
 |func f=>
  simp only[St.ev,zO]at ha;subst ha
  simp[AV.refs,AV.leaves,TV.leaves,A0.refs]at hr
 |global g=>cases ha
theorem Loc.lk {o:Oper}(h:Loc o σ τ){x:Operand}(hx:x∈o.op.operands.toList){a:AV}(ha:σ.ev x=some a){r:Nat}(hr:r∈a.refs)(hq0:A8 o=false:=by first|assumption|simp[A8, *]):τ.look r=σ.look r:=h.look r (A9j hx ha hr hq0)
theorem Loc.lkb {o:Oper}(h:Loc o σ τ){x:Operand}(hx:x∈o.op.operands.toList){a:AV}(ha:σ.ev x=some a){r q:Nat}(hr:r∈a.refs)(hq:q∈σ.below r)(hq0:A8 o=false:=by first|assumption|simp[A8, *])(hq1:F6 o=false:=by first|assumption|simp[F6, *]):τ.look q=σ.look q:=h.look q (A4o hx ha hr hq hq0 hq1)
theorem Loc.ev1 {o:Oper}(h:Loc o σ τ){x:Operand}(hx:x∈o.op.operands.toList):τ.ev1 x=σ.ev1 x:=by unfold St.ev1;rw[h.ev x hx]
theorem Loc.evT {o:Oper}(h:Loc o σ τ){x:Operand}(hx:x∈o.op.operands.toList):τ.evT x=σ.evT x:=by unfold St.evT;rw[h.ev x hx]
theorem V8 {x:Operand}{l:A0}(h:σ.ev1 x=some l):σ.ev x=some (.v (.one l)):=by
 unfold St.ev1 at h
 split at h
 ·obtain rfl:=oI h;assumption
 ·cases h
theorem Loc.lk1 {o:Oper}(h:Loc o σ τ){x:Operand}(hx:x∈o.op.operands.toList){l:A0}(ha:σ.ev1 x=some l){r:Nat}(hr:r∈l.refs)(hq0:A8 o=false:=by first|assumption|simp[A8, *]):τ.look r=σ.look r:=
 h.lk hx (V8 ha) (by simpa[AV.refs,AV.leaves,TV.leaves]using hr) hq0
theorem Loc.lkT {o:Oper}(h:Loc o σ τ){x:Operand}(hx:x∈o.op.operands.toList){y:TV}(ha:σ.evT x=some y){r:Nat}(hr:r∈y.leaves.flatMap A0.refs)(hq0:A8 o=false:=by first|assumption|simp[A8, *]):τ.look r=σ.look r:=
 h.lk hx (M0 ha) (by simpa[AV.refs,AV.leaves]using hr) hq0
def Quiet (o:Oper)(σ σ' τ:St)(f:St→Option (Bool×St))(c:Bool):Prop:=∃av,σ'=σ.put o.dst av∧f τ=some (c,τ.put o.dst av)
theorem Quiet.fx {o:Oper}{f:St→Option (Bool×St)}{c:Bool}(hc:consOf E o σ=[])(h:Quiet o σ σ' τ f c):∃τ',f τ=some (c,τ')∧Fx E o σ σ' τ τ':=by
 obtain⟨av,rfl,h⟩:=h
 have hno:∀r,¬Tch E o σ (σ.put o.dst av) r:=by
  intro r hr
  rcases hr with hr|⟨h1,h2⟩
  ·rw[hc]at hr;cases hr
  ·rw[St.look_put]at h2;exact h2 h1
 exact⟨_,h,⟨av,rfl,rfl⟩,fun r hr=>absurd hr (hno r),fun r _=>⟨St.look_put ..,St.look_put ..⟩,⟨St.pins_put ..,St.pins_put ..⟩⟩
theorem T8 {K:List Nat}{r:Nat}(h:τ.look r=σ.look r):(τ.kill K).look r=(σ.kill K).look r:=by rw[A9,A9,h]
theorem U1 (σ:St)(K:List Nat):(σ.kill K).slots=σ.slots:=rfl
theorem A4m (σ:St)(K:List Nat):(σ.kill K).pins=σ.pins:=rfl
theorem F1 {σ τ:St}(h:σ.slots=τ.slots)(d:Option Nat)(av:AV):(σ.put d av).slots=(τ.put d av).slots:=by cases d<;>simp[St.put,h]
theorem A4e {o:Oper}{K:List Nat}{N:List (Nat×A6)}{σ1:St}{av:AV}(hK:∀r∈K,r∈consOf E o σ)(hcr:∀r∈consOf E o σ,τ.look r=σ.look r)(h:(σ.kill K).addRows N=some σ1)
  (hnew:∀p∈N,τ.look p.1=σ.look p.1):∃τ1,(τ.kill K).addRows N=some τ1∧Fx E o σ (σ1.put o.dst av) τ (τ1.put o.dst av):=by
 have hex:∀(N:List (Nat×A6)) (σ τ σ1:St),σ.addRows N=some σ1→(∀p∈N,τ.look p.1=σ.look p.1)→∃τ1,τ.addRows N=some τ1:=by
  intro N
  induction N with
  |nil=>intro σ τ σ1 _ _;exact⟨τ,rfl⟩
  |cons p N ih=>
   obtain⟨k,row⟩:=p
   intro σ τ σ1 h hl
   simp only[St.addRows]at h⊢
   rw[hl (k,row) (zM ..)]
   split at h
   ·rename_i hk
    simp only[hk]
    refine ih _ _ _ h fun p hp=>?_
    rw[A3,A3,hl p (zF _ hp)]
   ·cases h
 obtain⟨k1,k2,k3,k4,k5⟩:=B2 h
 obtain⟨τ1,hτ⟩:=hex N _ (τ.kill K) _ h fun p hp=>T8 (hnew p hp)
 obtain⟨m1,m2,m3,m4,m5⟩:=B2 hτ
 refine⟨τ1,hτ,⟨av,F1 (by rw[k1,U1]) _ _,F1 (by rw[m1,U1]) _ _⟩,fun r hr=>?_,fun r hr=>?_,⟨by rw[St.pins_put,k2,A4m],by rw[St.pins_put,m2,A4m]⟩⟩
 ·rw[St.look_put,St.look_put]
  by_cases hN:∃p∈N,p.1=r
  ·obtain⟨p,hp,rfl⟩:=hN
   rw[(k3 p hp).2,(m3 p hp).2]
  ·have hno:∀p∈N,p.1≠r:=fun p hp e=>hN ⟨p,hp,e⟩
   rw[k4 r hno,m4 r hno]
   refine T8 ?_
   rcases hr with hr|⟨h1,h2⟩
   ·exact hcr r hr
   ·rw[St.look_put,k4 r hno,A9]at h2
    split at h2
    ·rename_i hk;exact hcr r (hK r hk)
    ·exact absurd h1 h2
 ·rw[St.look_put,St.look_put]
  have hno:∀p∈N,p.1≠r:=by
   rintro p hp rfl
   have h0:=(k3 p hp).1
   rw[A9]at h0
   split at h0
   ·cases h0
   ·exact hr (.inr ⟨h0,by rw[St.look_put,(k3 p hp).2];simp⟩)
  have hnk:r∉K:=fun h=>hr (.inl (hK r h))
  rw[k4 r hno,m4 r hno,A9,A9,if_neg hnk,if_neg hnk]
  exact⟨rfl,rfl⟩
theorem T2:∀{us:List (Nat×A6)} {σ τ:St} {r:Nat},r∈us.map (·.1)∨σ.look r=τ.look r→(setUps σ us).look r=(setUps τ us).look r
 |[],σ,τ,r,h=>h.resolve_left (by simp)
 |(r0,row0)::us,σ,τ,r,h=>by
  refine T2 (us:=us) (σ:=σ.setRow r0 row0) (τ:=τ.setRow r0 row0) ?_
  rcases h with h|h
  ·rcases List.mem_cons.mp h with h|h
   ·right;rw[A3,A3,if_pos h,if_pos h]
   ·exact .inl h
  ·right;rw[A3,A3,h]
theorem Fx.setUps {o:Oper}{σ1 τ1:St}{av:AV}{us:List (Nat×A6)}(h:Fx E o σ (σ1.put o.dst av) τ (τ1.put o.dst av))(hu:∀r∈us.map (·.1),r∈consOf E o σ):Fx E o σ ((setUps σ1 us).put o.dst av) τ ((setUps τ1 us).put o.dst av):=by
 obtain⟨⟨av',h1,h2⟩,h3,h4,h5⟩:=h
 obtain⟨s1,s2⟩:=L5 us σ1
 obtain⟨t1,t2⟩:=L5 us τ1
 have hold:∀r,r∉us.map (·.1)→((Ev.setUps σ1 us).put o.dst av).look r=(σ1.put o.dst av).look r:=fun r hr=>by rw[St.look_put,St.look_put];exact(H7 (us:=us) (σ:=σ1) (r:=r)).1 hr
 have holdτ:∀r,r∉us.map (·.1)→((Ev.setUps τ1 us).put o.dst av).look r=(τ1.put o.dst av).look r:=fun r hr=>by rw[St.look_put,St.look_put];exact(H7 (us:=us) (σ:=τ1) (r:=r)).1 hr
 refine⟨⟨av',by rw[F1 s1];exact h1,by rw[F1 t1];exact h2⟩,fun r hr=>?_,fun r hr=>?_,?_⟩
 ·by_cases hm:r∈us.map (·.1)
  ·rw[St.look_put,St.look_put];exact(T2 (.inl hm)).symm
  ·rw[hold r hm,holdτ r hm]
   refine h3 r ?_
   rcases hr with hr|⟨a,b⟩
   ·exact .inl hr
   ·rw[hold r hm]at b;exact .inr ⟨a,b⟩
 ·have hm:r∉us.map (·.1):=fun hm=>hr (.inl (hu r hm))
  rw[hold r hm,holdτ r hm]
  refine h4 r fun ht=>hr ?_
  rcases ht with ht|⟨a,b⟩
  ·exact .inl ht
  ·exact .inr ⟨a,by rw[hold r hm];exact b⟩
 ·rw[St.pins_put,St.pins_put,s2,t2]
  rw[St.pins_put,St.pins_put]at h5;exact h5
theorem A1u {o:Oper}{j:Nat}{f:Kd}{xs:List f.T}(h:σ.fresh o j f xs=some σ'):∃σ1,σ.addRows [(σ.freeKey o.dst j,.data f xs)]=some σ1∧σ'=σ1.put o.dst (.v (.one (.ow (σ.freeKey o.dst j)))):=by
 unfold St.fresh at h
 obtain⟨σ1,h1,h2⟩:=oM h
 exact⟨σ1,h1,h2.symm⟩
theorem A34 {d:Option Nat}(hk:∀k∈T1 d,τ.look k=σ.look k):τ.freeKey d 0=σ.freeKey d 0:=by
 unfold St.freeKey
 rw[hk (key d 0) (by simp[T1]),hk (key d (32+0)) (by simp[T1])]
theorem A2d (d:Option Nat):σ.freeKey d 0∈T1 d:=by
 unfold St.freeKey T1
 split
 ·simp
 ·split<;>simp
theorem A14 {o:Oper}{K:List Nat}{f:Kd}{xs:List f.T}{c:Bool}(hl:Loc o σ τ)(hK:∀r∈K,r∈consOf E o σ)(hcr:∀r∈consOf E o σ,τ.look r=σ.look r)(h:(((σ.kill K).fresh o 0 f xs).bind fun σ'=>some (c,σ'))=some (c,σ')):
  ∃τ',(((τ.kill K).fresh o 0 f xs).bind fun σ'=>some (c,σ'))=some (c,τ')∧Fx E o σ σ' τ τ':=by
 obtain⟨σ2,h1,h2⟩:=oB h
 obtain⟨_,rfl⟩:=zQ (oI h2)
 obtain⟨σ1,h3,rfl⟩:=A1u h1
 have hkk:∀k∈T1 o.dst,(τ.kill K).look k=(σ.kill K).look k:=fun k hk=>T8 (hl.key k hk)
 obtain⟨τ1,h4,h5⟩:=A4e (τ:=τ) (av:= .v (.one (.ow ((σ.kill K).freeKey o.dst 0)))) hK hcr h3 (by
  intro p hp
  simp only[zF1]at hp;subst hp
  exact hl.key _ (A2d _))
 refine⟨_,?_,h5⟩
 unfold St.fresh
 rw[A34 hkk,h4]
 rfl
end
end Go.Proofs.Ytalmhjlcjcnidaa.Ev

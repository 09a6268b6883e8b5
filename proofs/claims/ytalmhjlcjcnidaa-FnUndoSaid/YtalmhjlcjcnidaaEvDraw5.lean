/- Regions whose order is open: whatever order is picked comes to the same. -/
import Derived.Test.YtalmhjlcjcnidaaEvDraw4
set_option linter.all false
namespace Go.Proofs.Ytalmhjlcjcnidaa.Ev
open Go
def Same (σ τ:St):Prop:=τ.slots=σ.slots∧τ.pins=σ.pins∧∀r,τ.look r=σ.look r
section
variable {E:Env} {C:CF} {deep:Bool} {ops:Array Oper} {σ τ σ':St} {o:Oper} {R:Type} {κ:St→Option R} {r:R} {RdF TF:Nat→List Nat}
theorem Same.refl (σ:St):Same σ σ:=⟨rfl,rfl,fun _=>rfl⟩
theorem Same.loc (h:Same σ τ)(o:Oper):Loc o σ τ:=by
 refine⟨fun x _=>?_,fun r _=>h.2.2 r,fun r _=>h.2.2 r⟩
 cases x<;>simp[St.ev,h.1]
structure Goes (E:Env) (C:CF) (deep:Bool) (ops:Array Oper) (RdF TF:Nat→List Nat) (i:Nat) (o:Oper) (σ σ':St):Prop where
 step:G0 E C deep ops o σ some=some σ'
 may:mayDraw E o σ σ'=true
 rd:∀q∈rdOf o σ,q∈RdF i
 tch:∀q,Tch E o σ σ' q→q∈TF i
def AnyE (E:Env)(C:CF)(deep:Bool)(ops:Array Oper)(RdF TF:Nat→List Nat)(Z:Array Bool→St→Prop):Nat→Array Bool→St→Prop
 |0,listed,σ=>∃σf,Same σ σf∧Z listed σf
 |n+1,listed,σ=>Region.ready .any ops listed≠[]∧
  ∀i∈Region.ready .any ops listed,∃o σ',ops[i]?=some o∧Goes E C deep ops RdF TF i o σ σ'∧AnyE E C deep ops RdF TF Z n (listed.setIfInBounds i true) σ'
def A5c (E:Env)(C:CF)(deep:Bool)(ops:Array Oper)(κ:St→Option R)(r:R):List Oper→Nat→Array Bool→St→Prop
 |[],_,listed,σ=>Region.ready .any ops listed=[]∧κ σ=some r
 |o::t,k,listed,σ=>Region.ready .any ops listed≠[]∧(∀i∈Region.ready .any ops listed,i=k)∧ops[k]?=some o∧∃σ',G0 E C deep ops o σ some=some σ'∧A5c E C deep ops κ r t (k+1) (listed.setIfInBounds k true) σ'
theorem A49 {o:Oper}{t:Nat}(h:t∈H9 o): .tmp t∈o.op.operands.toList:=by
 obtain⟨x,hx,he⟩:=List.mem_filterMap.mp h
 cases x<;>simp at he
 subst he;exact hx
theorem Loc.slot (hl:Loc o σ τ){t:Nat}(ht:t∈H9 o):τ.slots.getD t A1=σ.slots.getD t A1:=by
 have:=hl.ev _ (A49 ht)
 simpa[St.ev]using this
theorem Loc.rdOf (hl:Loc o σ τ):rdOf o τ=Ev.rdOf o σ:=by
 have hr:=hl.look
 unfold Ev.rdOf at hr⊢
 cases hq:A8 o<;>rw[hq]at hr<;>simp only[zB,zA]at hr⊢
 cases hq1:F6 o<;>rw[hq1]at hr<;>simp only[zB,zA]at hr⊢
 rotate_left
 ·have:∀(ts:List Nat),(∀t∈ts,t∈H9 o)→(ts.flatMap fun t=>(τ.slots.getD t A1).refs)=ts.flatMap fun t=>(σ.slots.getD t A1).refs:=by
   intro ts
   induction ts with
   |nil=>intro _;rfl
   |cons t ts ih=>intro h1;rw[zV,zV,ih (fun t ht=>h1 t (zF _ ht)),hl.slot (h1 t (zM ..))]
  exact this _ fun t ht=>ht
 have:∀(ts:List Nat),(∀t∈ts,t∈H9 o)→(∀t∈ts,∀q∈(σ.slots.getD t A1).refs.flatMap σ.below,τ.look q=σ.look q)→(ts.flatMap fun t=>(τ.slots.getD t A1).refs.flatMap τ.below)=ts.flatMap fun t=>(σ.slots.getD t A1).refs.flatMap σ.below:=by
  intro ts
  induction ts with
  |nil=>intro _ _;rfl
  |cons t ts ih=>
   intro h1 h2
   rw[zV,zV,ih (fun t ht=>h1 t (zF _ ht)) (fun t ht=>h2 t (zF _ ht)),hl.slot (h1 t (zM ..))]
   congr 1
   have h3:=h2 t (zM ..)
   generalize (σ.slots.getD t A1).refs=rs at h3⊢
   induction rs with
   |nil=>rfl
   |cons q qs ihq=>
    rw[zV,zV,ihq fun p hp=>h3 p (by simp only[zV,zY];exact .inr hp)]
    congr 1
    unfold St.below
    rw[h3 q (by simp only[zV,zY];exact .inl (B5 q))]
 exact this _ (fun t ht=>ht) fun t ht q hq=>hr q (by simp only[zB1];exact⟨t,ht,by simpa only[zB1]using hq⟩)
theorem Loc.own (hl:Loc o σ τ)(hq0:A8 o=false)(hq1:F6 o=false){ms:List Md}:∀{xs:List Operand} {i:Nat},(∀x∈xs,x∈o.op.operands.toList)→C2 τ ms i xs=C2 σ ms i xs∧L4 τ ms i xs=L4 σ ms i xs∧D8 τ ms i xs=D8 σ ms i xs∧∀r∈D8 σ ms i xs,τ.look r.1=σ.look r.1:=by
 intro xs i h
 have:=A1n (deep:=true) (ms:=ms) (i:=i) (σ:=σ) (τ:=τ) (xs:=xs) fun x hx=>⟨hl.ev x (h x hx),fun a ha r hr q hq=>hl.lkb (h x hx) ha hr hq⟩
 exact this.2
theorem Loc.consOf (hl:Loc o σ τ):consOf E o τ=Ev.consOf E o σ:=by
 have hf:((H9 o).flatMap fun t=>(τ.slots.getD t A1).refs)=(H9 o).flatMap fun t=>(σ.slots.getD t A1).refs:=by
  have:∀ts:List Nat,(∀t∈ts,t∈H9 o)→(ts.flatMap fun t=>(τ.slots.getD t A1).refs)=ts.flatMap fun t=>(σ.slots.getD t A1).refs:=by
   intro ts
   induction ts with
   |nil=>intro _;rfl
   |cons t ts ih=>intro h;rw[zV,zV,ih fun t ht=>h t (zF _ ht),hl.slot (h t (zM ..))]
  exact this _ fun t ht=>ht
 unfold Ev.consOf
 cases hop:o.op<;>simp only[]<;>try exact hf
 ·rw[hl.ev1 (by simp[hop,Op.operands])]
 rename_i cl
 cases hcal:cl.callee with
 |value x=>
  have hops:o.op.operands.toList=x::cl.args.toList:=by rw[hop];simp[Op.operands,Call.operands,hcal]
  simp only
  rw[hl.ev1 (by rw[hops];exact zM ..)]
  split
  ·exact(hl.own (by simp[A8,hop]) (by simp[F6,hop]) fun y hy=>by rw[hops];exact zF _ hy).1
  ·rfl
 |invoke=>rfl
 |builtin b=>
  cases b<;>simp only[]<;>try (first|exact hf|rfl)
  have hops:o.op.operands.toList=cl.args.toList:=by rw[hop];simp[Op.operands,Call.operands,hcal]
  split
  ·rename_i x y hargs
   rw[hl.ev1 (x:=x) (by rw[hops,hargs];simp),hl.ev1 (x:=y) (by rw[hops,hargs];simp)]
  ·rfl
theorem A0l {ρ ρ':St}(hl:Loc o σ τ)(hlen:τ.slots.length=σ.slots.length)(hs:∀d,o.dst=some d→ρ'.slots.getD d A1=ρ.slots.getD d A1):mayDraw E o τ ρ'=mayDraw E o σ ρ:=by
 unfold mayDraw
 rw[A62 hl]
 congr 1
 unfold K3
 cases hop:o.op<;>simp only[]
 case store t a v=>
  have ha:a∈o.op.operands.toList:=by simp[hop,Op.operands]
  rw[hl.ev1 ha]
  split
  ·rename_i r i k hp
   rw[hl.lk1 ha hp (by simp[A0.refs])]
  ·rfl
 case call cl=>
  cases hcal:cl.callee with
  |value x=>
   have hops:o.op.operands.toList=x::cl.args.toList:=by rw[hop];simp[Op.operands,Call.operands,hcal]
   simp only
   rw[hl.ev1 (by rw[hops];exact zM ..)]
   split
   ·rename_i g cs d hg hd
    obtain⟨_,q2,q3,q4⟩:=hl.own (by simp[A8,hop]) (by simp[F6,hop]) (ms:=(E.sig g).modes) (i:=0) (xs:=cl.args.toList) fun y hy=>by rw[hops];exact zF _ hy
    rw[q2,q3,hlen,hs d hd]
    congr 1
    congr 1
    generalize D8 σ (E.sig g).modes 0 cl.args.toList=l at q4
    induction l with
    |nil=>rfl
    |cons r l ih=>
     rw[List.all_cons,List.all_cons,ih fun r hr=>q4 r (zF _ hr)]
     congr 1
     unfold A2f
     rw[q4 r (zM ..)]
   ·rfl
  |invoke=>rfl
  |builtin b=>cases b<;>rfl
theorem Goes.eff (hC:K2 C){i:Nat}(h:Goes E C deep ops RdF TF i o σ σ'):(∃av,σ'.slots=(σ.put o.dst av).slots)∧(∀q,q∉TF i→σ'.look q=σ.look q)∧σ'.pins=σ.pins:=by
 obtain⟨τ',h1,h2⟩:=A2v (τ:=σ) hC h.step h.may ((Same.refl σ).loc o) (fun _ _ _=>rfl) (fun _ h _=>h)
 obtain⟨av,h3,_⟩:=h2.av
 exact⟨⟨av,h3⟩,fun q hq=>(h2.rest q fun ht=>hq (h.tch q ht)).1,h2.pin.1⟩
theorem A7q (σ:St)(d:Option Nat)(av:AV):(σ.put d av).slots.length=σ.slots.length:=by cases d<;>simp[St.put]
theorem S3 (σ:St){d:Option Nat}{t:Nat}(h:d≠some t)(av:AV):(σ.put d av).slots.getD t A1=σ.slots.getD t A1:=by
 cases d with
 |none=>rfl
 |some d=>
  have:d≠t:=fun e=>h (by rw[e])
  simp[St.put,List.getD,List.getElem?_set_ne this]
theorem A5y {t:Nat}(h:t∈H9 o):t∈o.looksAt ops:=zZ _ (List.mem_filterMap.mpr ⟨.tmp t,A49 h,rfl⟩)
theorem A3c {d:Nat}{w:Bool}(h:M8 ops o=some (some d,w)):d∈o.looksAt ops:=by
 unfold M8 at h
 split at h
 ·cases h
 ·rename_i j w' hg
  simp at h
  exact zA1 _ (by simp[hg,h.1])
structure Ind (ops:Array Oper) (RdF TF:Nat→List Nat) (i j:Nat) (x y:Oper):Prop where
 a1:∀d,x.dst=some d→d∉y.looksAt ops
 a2:∀d,x.dst=some d→y.dst≠some d
 a3:∀d,y.dst=some d→d∉x.looksAt ops
 r1:∀q∈RdF i,q∉TF j
 r2:∀q∈RdF j,q∉TF i
 t:∀q∈TF i,q∉TF j
 k1:∀q∈T1 x.dst,q∉TF j
 k2:∀q∈T1 y.dst,q∉TF i
theorem Ind.symm {i j:Nat}{x y:Oper}(h:Ind ops RdF TF i j x y):Ind ops RdF TF j i y x:=
 ⟨h.a3,fun d hd e=>h.a2 d e hd,h.a1,h.r2,h.r1,fun q h1 h2=>h.t q h2 h1,h.k2,h.k1⟩
theorem B1m {τ:St}{y:Oper}{d:Option Nat}{av:AV}{T RdJ:List Nat}(hs:τ.slots=(σ.put d av).slots)(hd:∀t,d=some t→t∉y.looksAt ops)(hr:∀q,q∉T→τ.look q=σ.look q)(hrd:∀q∈Ev.rdOf y σ,q∈RdJ)(h1:∀q∈RdJ,q∉T)(h2:∀q∈T1 y.dst,q∉T):
  Loc y σ τ∧∀t w,M8 ops y=some (some t,w)→τ.slots.getD t A1=σ.slots.getD t A1:=by
 refine⟨⟨fun x hx=>?_,fun q hq=>hr q (h1 q (hrd q hq)),fun q hq=>hr q (h2 q hq)⟩,fun t w hg=>?_⟩
 ·cases x with
  |tmp t=>
   simp only[St.ev,zO]
   rw[hs]
   exact S3 σ (fun e=>hd t e (A5y (List.mem_filterMap.mpr ⟨.tmp t,hx,rfl⟩))) av
  |const=>rfl
  |func=>rfl
  |global=>rfl
 ·rw[hs]
  exact S3 σ (fun e=>hd t e (A3c hg)) av
theorem B00 {τ:St}{y:Oper}{d:Option Nat}{av:AV}{T RdJ:List Nat}(hs:τ.slots=(σ.put d av).slots)(hd:∀t,d=some t→t∉y.looksAt ops)(hr:∀q,q∉T→τ.look q=σ.look q)(hrd:∀q∈Ev.rdOf y τ,q∈RdJ)(h1:∀q∈RdJ,q∉T)(h2:∀q∈T1 y.dst,q∉T):
  Loc y τ σ∧∀t w,M8 ops y=some (some t,w)→σ.slots.getD t A1=τ.slots.getD t A1:=by
 refine⟨⟨fun x hx=>?_,fun q hq=>(hr q (h1 q (hrd q hq))).symm,fun q hq=>(hr q (h2 q hq)).symm⟩,fun t w hg=>?_⟩
 ·cases x with
  |tmp t=>
   simp only[St.ev,zO]
   rw[hs]
   exact(S3 σ (fun e=>hd t e (A5y (List.mem_filterMap.mpr ⟨.tmp t,hx,rfl⟩))) av).symm
  |const=>rfl
  |func=>rfl
  |global=>rfl
 ·rw[hs]
  exact(S3 σ (fun e=>hd t e (A3c hg)) av).symm
theorem swap (hC:K2 C){i j:Nat}{x y:Oper}{τ ρ:St}(hind:Ind ops RdF TF i j x y)(h1:Goes E C deep ops RdF TF i x σ τ)(h2:Goes E C deep ops RdF TF j y τ ρ):
  ∃τ' ρ',Goes E C deep ops RdF TF j y σ τ'∧Goes E C deep ops RdF TF i x τ' ρ'∧Same ρ ρ':=by
 obtain⟨⟨ai,e1⟩,e2,e3⟩:=h1.eff hC
 obtain⟨lj,gj⟩:=B00 (y:=y) e1 hind.a1 e2 h2.rd hind.r2 hind.k2
 obtain⟨τ',s1,s2⟩:=A2v (τ:=σ) hC h2.step h2.may lj gj (fun q h3 h4=>by
  rw[←h3];exact(e2 q fun hq=>hind.t q hq (h2.tch q (.inr ⟨h3,h4⟩))).symm)
 obtain⟨b,f1,f2⟩:=s2.av
 have hlen1:σ.slots.length=τ.slots.length:=by rw[e1,A7q]
 have hj:Goes E C deep ops RdF TF j y σ τ':=by
  refine⟨s1,?_,fun q hq=>h2.rd q (by rw[lj.rdOf]at hq;exact hq),fun q hq=>?_⟩
  ·rw[A0l lj hlen1 (fun d hd=>?_)];· exact h2.may
   rw[f1,f2,hd]
   simp only[St.put,List.getD,List.getElem?_set,hlen1]
   simp only[if_true]
  ·rcases hq with hq|⟨h3,h4⟩
   ·rw[lj.consOf]at hq;exact h2.tch q (.inl hq)
   ·by_cases ht:Tch E y τ ρ q
    ·exact h2.tch q ht
    ·rw[(s2.rest q ht).2]at h4;exact absurd h3 h4
 obtain⟨⟨bj,g1⟩,g2,g3⟩:=hj.eff hC
 obtain⟨li,gi⟩:=B1m (y:=x) g1 hind.a3 g2 h1.rd hind.r1 hind.k1
 obtain⟨ρ',t1,t2⟩:=A2v (τ:=τ') hC h1.step h1.may li gi (fun q h3 h4=>by
  rw[g2 q (hind.t q (h1.tch q (.inr ⟨h3,h4⟩))),h3])
 obtain⟨a,p1,p2⟩:=t2.av
 have hlen2:τ'.slots.length=σ.slots.length:=by rw[g1,A7q]
 have hi:Goes E C deep ops RdF TF i x τ' ρ':=by
  refine⟨t1,?_,fun q hq=>h1.rd q (by rw[li.rdOf]at hq;exact hq),fun q hq=>?_⟩
  ·rw[A0l li hlen2 (fun d hd=>?_)];· exact h1.may
   rw[p1,p2,hd]
   simp only[St.put,List.getD,List.getElem?_set,hlen2]
   simp only[if_true]
  ·rcases hq with hq|⟨h3,h4⟩
   ·rw[li.consOf]at hq;exact h1.tch q (.inl hq)
   ·by_cases ht:Tch E x σ τ q
    ·exact h1.tch q ht
    ·rw[(t2.rest q ht).2]at h4;exact absurd h3 h4
 refine⟨τ',ρ',hj,hi,?_,?_,fun q=>?_⟩
 ·rw[p2,f1]
  have e4:(τ'.put x.dst a).slots=((σ.put y.dst b).put x.dst a).slots:=F1 f2 _ _
  have e5:(τ.put y.dst b).slots=((σ.put x.dst a).put y.dst b).slots:=F1 p1 _ _
  rw[e4,e5]
  cases hx:x.dst with
  |none=>rfl
  |some d=>
   cases hy:y.dst with
   |none=>rfl
   |some e=>
    have hne:d≠e:=fun h=>hind.a2 d hx (by rw[hy,h])
    simp only[St.put]
    exact(List.set_comm _ _ hne).symm
 ·rw[t2.pin.2,g3,s2.pin.1,e3]
 ·by_cases hti:Tch E x σ τ q
  ·rw[t2.same q hti]
   have:¬Tch E y τ ρ q:=fun ht=>hind.t q (h1.tch q hti) (h2.tch q ht)
   rw[(s2.rest q this).1]
  ·rw[(t2.rest q hti).2]
   by_cases htj:Tch E y τ ρ q
   ·rw[s2.same q htj]
   ·rw[(s2.rest q htj).1,(s2.rest q htj).2,(t2.rest q hti).1]
theorem Goes.same (hC:K2 C){i:Nat}(h:Goes E C deep ops RdF TF i o σ σ')(hs:Same σ τ):∃τ',Goes E C deep ops RdF TF i o τ τ'∧Same σ' τ':=by
 have hl:=hs.loc o
 obtain⟨τ',h1,h2⟩:=A2v (τ:=τ) hC h.step h.may hl (fun d _ _=>by rw[hs.1]) (fun q h3 _=>by rw[hs.2.2,h3])
 obtain⟨av,e1,e2⟩:=h2.av
 have he:τ'.slots=σ'.slots:=by rw[e1,e2];exact F1 hs.1 _ _
 refine⟨τ',⟨h1,?_,fun q hq=>h.rd q (by rw[hl.rdOf]at hq;exact hq),fun q hq=>?_⟩,he,?_,fun q=>?_⟩
 ·rw[A0l (ρ:=σ') hl (by rw[hs.1]) (fun d _=>by rw[he])];exact h.may
 ·rcases hq with hq|⟨h3,h4⟩
  ·rw[hl.consOf]at hq;exact h.tch q (.inl hq)
  ·by_cases ht:Tch E o σ σ' q
   ·exact h.tch q ht
   ·rw[(h2.rest q ht).2]at h4;exact absurd h3 h4
 ·rw[h2.pin.2,h2.pin.1,hs.2.1]
 ·by_cases ht:Tch E o σ σ' q
  ·rw[h2.same q ht]
  ·rw[(h2.rest q ht).1,(h2.rest q ht).2,hs.2.2]
theorem Same.trans {ρ:St}(h1:Same σ τ)(h2:Same τ ρ):Same σ ρ:=⟨h2.1.trans h1.1,h2.2.1.trans h1.2.1,fun r=>(h2.2.2 r).trans (h1.2.2 r)⟩
theorem Same.symm (h1:Same σ τ):Same τ σ:=⟨h1.1.symm,h1.2.1.symm,fun r=>(h1.2.2 r).symm⟩
theorem AnyE.same (hC:K2 C){Z:Array Bool→St→Prop}:∀{n:Nat} {listed:Array Bool} {σ τ:St},AnyE E C deep ops RdF TF Z n listed σ→Same σ τ→AnyE E C deep ops RdF TF Z n listed τ
 |0,listed,σ,τ,h,hs=>by obtain⟨σf,h1,h2⟩:=h;exact⟨σf,hs.symm.trans h1,h2⟩
 |n+1,listed,σ,τ,h,hs=>⟨h.1,fun i hi=>by
   obtain⟨o,σ',h1,h2,h3⟩:=h.2 i hi
   obtain⟨τ',h4,h5⟩:=h2.same hC hs
   exact⟨o,τ',h1,h4,AnyE.same hC h3 h5⟩⟩
def Closed (ops:Array Oper)(listed:Array Bool):Prop:=∀k o,ops[k]?=some o→listed.getD k false=true→∀e∈o.after,Region.binds .any e=true→listed.getD e.on false=true
theorem Closed.set {listed:Array Bool}{i:Nat}(h:Closed ops listed)(hi:i∈Region.ready .any ops listed):Closed ops (listed.setIfInBounds i true):=by
 intro k o hk hl e he hb
 by_cases hik:i=k
 ·subst hik
  obtain⟨_,o',ho',hall⟩:=mem_ready.1 hi
  obtain rfl:=oI (hk.symm.trans ho')
  exact getD_set_true (hall e he hb)
 ·rw[getD_set_ne false hik]at hl
  exact getD_set_true (h k o hk hl e he hb)
theorem AnyE.first (hC:K2 C){Z:Array Bool→St→Prop}{i:Nat}{oi:Oper}(hoi:ops[i]?=some oi)(hZ:∀listed σ,Z listed σ→∀j∈Region.ready .any ops listed,∀l,Closed ops l→l.getD i true=false→j∉Region.ready .any ops l):∀(n:Nat) (listed:Array Bool) (σ τ:St),Closed ops listed→
  (∀j oj,ops[j]?=some oj→j≠i→listed.getD j true=false→(∀l,Closed ops l→l.getD i true=false→j∉Region.ready .any ops l)∨Ind ops RdF TF i j oi oj)→
  i∈Region.ready .any ops listed→Goes E C deep ops RdF TF i oi σ τ→AnyE E C deep ops RdF TF Z n (listed.setIfInBounds i true) τ→AnyE E C deep ops RdF TF Z (n+1) listed σ:=by
 intro n
 induction n with
 |zero=>
  intro listed σ τ hcl hfree hr hg H
  refine⟨fun h=>(by rw[h]at hr;cases hr),fun j hj=>?_⟩
  by_cases hji:j=i
  ·subst hji;exact⟨oi,τ,hoi,hg,H⟩
  ·obtain⟨σf,_,hz⟩:=H
   exact absurd hj (hZ _ _ hz j (ready_mono hj hji) listed hcl (mem_ready.1 hr).1)
 |succ n ih=>
  intro listed σ τ hcl hfree hr hg H
  refine⟨fun h=>(by rw[h]at hr;cases hr),fun j hj=>?_⟩
  by_cases hji:j=i
  ·subst hji;exact⟨oi,τ,hoi,hg,H⟩
  ·obtain⟨oj,ρ,hoj,hgj,hrest⟩:=H.2 j (ready_mono hj hji)
   have hjun:=(mem_ready.1 hj).1
   have hiun:=(mem_ready.1 hr).1
   have hind:Ind ops RdF TF i j oi oj:=(hfree j oj hoj hji hjun).resolve_left fun h=>h listed hcl hiun hj
   obtain⟨τ',ρ',k1,k2,k3⟩:=swap hC hind hg hgj
   refine⟨oj,τ',hoj,k1,ih (listed.setIfInBounds j true) τ' ρ' (hcl.set hj) (fun k ok hk hki hun=>hfree k ok hk hki ?_) (ready_mono hr (Ne.symm hji)) k2 ?_⟩
   ·by_cases hjk:j=k
    ·subst hjk;exact hjun
    ·rw[getD_set_ne true hjk]at hun;exact hun
   ·rw[Array.setIfInBounds_comm _ _ hji]
    exact AnyE.same hC hrest k3
end
end Go.Proofs.Ytalmhjlcjcnidaa.Ev

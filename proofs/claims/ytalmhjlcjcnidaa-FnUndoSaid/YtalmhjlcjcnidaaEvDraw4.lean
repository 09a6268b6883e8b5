/- Regions whose order is open: a step; whatever order is picked. -/
import Derived.Test.YtalmhjlcjcnidaaEvDraw3
set_option linter.all false
namespace Go.Proofs.Ytalmhjlcjcnidaa.Ev
open Go
section
variable {E:Env} {C:CF} {deep:Bool} {ops:Array Oper} {σ τ σ':St} {o:Oper} {c:Bool}
theorem A0y {cl:Call}{b:Builtin}(hop:o.op= .call cl)(hcal:cl.callee= .builtin b)(hb:b≠ .append):consOf E o σ=[]:=by
 simp only[consOf,hop,hcal]
 split
 ·rename_i h;cases h;exact absurd rfl hb
 ·rename_i h;cases h
 ·rfl
theorem B0w (h:R7 E deep o σ=some (c,σ'))(hm:K3 E o σ σ'=true)(hl:Loc o σ τ)(hN:∀r,σ.look r=none→σ'.look r≠none→τ.look r=none):∃τ',R7 E deep o τ=some (c,τ')∧Fx E o σ σ' τ τ':=by
 have lk:A8 o=false→∀{x:Operand},x∈o.op.operands.toList→∀l,σ.ev1 x=some l→∀r∈l.refs,τ.look r=σ.look r:=fun hq x hx l h r hr=>hl.lk1 hx h hr
 unfold R7 at h⊢
 cases hop:o.op<;>simp only[K3,hop]at hm<;>simp only[hop]at h⊢<;>try (cases hm;done)
 case move x=>exact A7m (by simp[consOf,hop]) (by simp[hop,Op.operands]) hl h
 case assign x=>exact A7m (by simp[consOf,hop]) (by simp[hop,Op.operands]) hl h
 case pick p a b=>exact Quiet.fx (by simp[consOf,hop]) (B0x (hl.ev _ (by simp[hop,Op.operands])) (hl.ev _ (by simp[hop,Op.operands])) (hl.ev _ (by simp[hop,Op.operands])) h)
 case alloc e=>exact A8k (by simp[consOf,hop]) hN h
 case build t ps=>exact A8n (by simp[consOf,hop]) (fun p hp=>by simp[hop,Op.operands];exact⟨p.1,by simpa using hp⟩) hl hN h
 case buildSlice t n ps=>exact A3z (by simp[A8,hop]) (by simp[consOf,hop]) (fun p hp=>by simp[hop,Op.operands];exact⟨p.1,by simpa using hp⟩) hl h
 case load t a=>exact Quiet.fx (by simp[consOf,hop]) (B0v (hl.ev1 (by simp[hop,Op.operands])) (lk (by simp[A8,hop]) (by simp[hop,Op.operands])) h)
 case store t a v=>
  split at hm
  ·rename_i r i k hp
   split at hm
   ·rename_i f ls hb
    exact A9o (by simp[A8,hop]) (by simp[consOf,hop]) (by simp[hop,Op.operands]) (by simp[hop,Op.operands]) hl hN hp hb h
   ·cases hm
  ·cases hm
 case nilCheck x=>exact Quiet.fx (by simp[consOf,hop]) (B1o (hl.ev1 (by simp[hop,Op.operands])) (lk (by simp[A8,hop]) (by simp[hop,Op.operands])) h)
 case binOp op t x y u=>exact Quiet.fx (by simp[consOf,hop]) (B1d (hl.ev _ (by simp[hop,Op.operands])) (hl.ev _ (by simp[hop,Op.operands])) h)
 case unOp op t x=>exact Quiet.fx (by simp[consOf,hop]) (B23 (hl.ev1 (by simp[hop,Op.operands])) h)
 case convert s d x=>exact A6q (by simp[A8,hop]) (by simp[F6,hop]) (by simp[consOf,hop]) (by simp[hop,Op.operands]) hl h
 case slice t x lo hi mx=>exact Quiet.fx (by simp[consOf,hop]) (B05 (hl.ev1 (by simp[hop,Op.operands])) (fun y e=>hl.ev1 (by simp[hop,Op.operands,e])) (fun y e=>hl.ev1 (by simp[hop,Op.operands,e])) (lk (by simp[A8,hop]) (by simp[hop,Op.operands])) h)
 case fieldAddr s x f=>exact Quiet.fx (by simp[consOf,hop]) (A5r (hl.ev1 (by simp[hop,Op.operands])) (lk (by simp[A8,hop]) (by simp[hop,Op.operands])) h)
 case indexAddr t x i=>exact A4x hop hl hN h
 case index t x i=>exact Quiet.fx (by simp[consOf,hop]) (A9z (hl.ev1 (by simp[hop,Op.operands])) (hl.ev1 (by simp[hop,Op.operands])) h)
 case extract x k=>exact Quiet.fx (by simp[consOf,hop]) (A81 (hl.ev _ (by simp[hop,Op.operands])) h)
 case call cl=>
  have hops:∀{b:Builtin},cl.callee= .builtin b→o.op.operands.toList=cl.args.toList:=by
   intro b hb;rw[hop];simp[Op.operands,Call.operands,hb]
  split at h
  ·rename_i t _ x e1 e2 e3
   (try simp only[e1,e2,e3])
   exact Quiet.fx (A0y hop e1 (by decide)) (B1l (hl.ev1 (by rw[hops e1,e3];simp)) (lk (by simp[A8,hop]) (by rw[hops e1,e3];simp)) h)
  ·rename_i t u _ x y e1 e2 e3
   (try simp only[e1,e2,e3])
   exact A7z hop e1 e3 (by rw[hops e1,e3];simp) (by rw[hops e1,e3];simp) hl hN h
  ·rename_i x y e1 e3
   (try simp only[e1,e3])
   exact Quiet.fx (A0y hop e1 (by decide)) (B1n (hl.ev1 (by rw[hops e1,e3];simp)) (hl.ev1 (by rw[hops e1,e3];simp)) h)
  ·rename_i e1 e2 e3
   rw[e1]at hm
   cases hm
  ·cases h
theorem A69 {d:Nat}{b:Bool}(h:σ.slots.getD d A1= .v (.one (.bool b))):σ.put (some d) (.v (.one (.bool b)))=σ:=by
 have hd:d<σ.slots.length:=by
  rcases zE1 d σ.slots.length with h'|h'
  ·exact h'
  ·simp[List.getD,List.getElem?_eq_none h',A1]at h
 have:σ.slots[d]= .v (.one (.bool b)):=by simpa[List.getD,hd]using h
 simp only[St.put]
 rw[←this,List.set_getElem_self]
theorem A9w {r:Nat}(h:r∈consOf E o σ):r∈rdOf o σ:=by
 unfold consOf at h
 split at h
 ·exact A21 h
 ·exact A21 h
 ·rename_i t x i hop
  split at h
  ·rename_i r' j c he
   simp at h;subst h
   exact A9j (by simp[hop,Op.operands]) (V8 he) (by simp[AV.refs,AV.leaves,TV.leaves,A0.refs])
  ·cases h
 ·rename_i cl hop
  split at h
  ·rename_i hcal
   have hops:o.op.operands.toList=cl.args.toList:=by rw[hop];simp[Op.operands,Call.operands,hcal]
   split at h
   ·rename_i x y hargs
    rcases zY.mp h with h|h
    ·split at h
     ·rename_i l hx
      exact A4o (by rw[hops,hargs];simp) (V8 hx) (by simpa[AV.refs,AV.leaves,TV.leaves]using h) (B5 r)
     ·cases h
    ·split at h
     ·rename_i r' hy
      simp at h;subst h
      exact A4o (by rw[hops,hargs];simp) (V8 hy) (by simp[AV.refs,AV.leaves,TV.leaves,A0.refs]) (B5 _)
     ·cases h
   ·cases h
  ·rename_i x hcal
   split at h
   ·rename_i g cs hg
    have hops:o.op.operands.toList=x::cl.args.toList:=by rw[hop];simp[Op.operands,Call.operands,hcal]
    have:∀(xs:List Operand) (i:Nat),(∀y∈xs,y∈o.op.operands.toList)→r∈C2 σ (E.sig g).modes i xs→r∈rdOf o σ:=by
     intro xs
     induction xs with
     |nil=>intro i _ h;simp[C2]at h
     |cons y ys ih=>
      intro i hm h
      simp only[C2,zY]at h
      rcases h with h|h
      ·cases hmd:B0 (E.sig g).modes i<;>cases hev:σ.ev y<;>rw[hmd,hev]at h<;>simp at h
       ·exact A4o (hm y (zM ..)) hev h (B5 r)
       ·exact A4o (hm y (zM ..)) hev h (B5 r)
       ·obtain⟨q,hq,h⟩:=h
        exact A4o (hm y (zM ..)) hev hq h
      ·exact ih (i+1) (fun z hz=>hm z (zF _ hz)) h
    exact this _ 0 (fun y hy=>by rw[hops];exact zF _ hy) h
   ·cases h
  ·cases h
 ·cases h
theorem A5a (hl:Loc o σ τ):Fx E o σ (σ.put o.dst S7) τ (τ.put o.dst S7):=by
 refine⟨⟨S7,rfl,rfl⟩,fun r hr=>?_,fun r _=>⟨St.look_put ..,St.look_put ..⟩,⟨St.pins_put ..,St.pins_put ..⟩⟩
 rw[St.look_put,St.look_put]
 rcases hr with hr|⟨h1,h2⟩
 ·exact hl.look r (A9w hr)
 ·rw[St.look_put]at h2;exact absurd h1 h2
theorem A99 (hl:Loc o σ τ){x:Operand}(hx:x∈o.op.operands.toList):A4f τ x=A4f σ x:=by unfold A4f;rw[hl.ev1 hx]
theorem A2i (hl:Loc o σ τ){ms:List Md}:∀{xs:List Operand} {i:Nat},(∀x∈xs,x∈o.op.operands.toList)→R4 ms τ i xs=R4 ms σ i xs
 |[],_,_=>rfl
 |x::xs,i,h=>by
  simp only[R4]
  rw[A99 hl (h x (zM ..)),A2i hl fun y hy=>h y (zF _ hy)]
theorem A62 (hl:Loc o σ τ):A4g E o τ=A4g E o σ:=by
 unfold A4g
 cases hop:o.op<;>simp only[]
 case call cl=>
  cases hcal:cl.callee with
  |value x=>
   have hops:o.op.operands.toList=x::cl.args.toList:=by rw[hop];simp[Op.operands,Call.operands,hcal]
   simp only
   rw[hl.ev1 (by rw[hops];exact zM ..)]
   split
   ·exact A2i hl fun y hy=>by rw[hops];exact zF _ hy
   ·rfl
  |invoke=>rfl
  |builtin b=>rfl
theorem A4n {ρ:St}(hm:K3 E o σ σ'=true):postOp o σ ρ=ρ:=by
 unfold postOp
 split
 ·rename_i t a v hop
  simp only[K3,hop]at hm
  split
  ·rename_i n i c hp
   rw[hp]at hm
   simp only at hm
   split at hm
   ·rfl
   ·cases hm
  ·rfl
 ·rfl
theorem A89 {ρ:St}(hl:Loc o σ τ)(hm:K3 E o σ σ'=true):postOp o τ ρ=ρ:=by
 unfold postOp
 split
 ·rename_i t a v hop
  have ha:a∈o.op.operands.toList:=by simp[hop,Op.operands]
  rw[hl.ev1 ha]
  simp only[K3,hop]at hm
  split
  ·rename_i n i c hp
   rw[hl.lk1 ha hp (by simp[A0.refs])]
   rw[hp]at hm
   simp only at hm
   split at hm
   ·rfl
   ·cases hm
  ·rfl
 ·rfl
theorem A1s (hC:K2 C)(h:P9 E C deep o σ some=some σ')(hm:mayDraw E o σ σ'=true)(hl:Loc o σ τ)(hN:∀r,σ.look r=none→σ'.look r≠none→τ.look r=none):
  ∃τ',P9 E C deep o τ some=some τ'∧Fx E o σ σ' τ τ':=by
 unfold P9 at h⊢
 simp only[mayDraw,zJ]at hm
 obtain⟨hpre,hm⟩:=hm
 rw[A67 hpre]at h
 rw[A67 ((A62 hl).trans hpre)]
 split at h
 ·rename_i cl hcl
  (try simp only[hcl])
  have hop:=A2g hcl
  simp only[K3,hop]at hm
  split at hm
  ·rename_i hcal;unfold H1 at h;rw[hcal]at h;cases h
  ·rename_i hcal;unfold H1 at h;rw[hcal]at h;cases h
  ·rename_i hcal;unfold H1 at h;rw[hcal]at h;cases h
  ·rename_i x hcal
   split at hm
   ·rename_i g cs d hg hd
    simp only[zJ,Bool.or_eq_true,Bool.not_eq_true',List.isEmpty_iff]at hm
    refine A9v hC hop hcal hg hd ?_ (fun r hr=>List.all_eq_true.mp hm.1.2 r hr) (Option.isNone_iff_eq_none.mp hm.2) (Nat.blt_eq.mp hm.1.1.1) hl hN h
    refine hm.1.1.2.imp (fun h=>?_) id
    split at h
    ·assumption
    ·cases h
   ·cases hm
  ·cases hm
 ·rename_i hcl
  (try simp only[hcl])
  cases h1:R7 E deep o σ with
  |none=>rw[h1]at h;cases h
  |some p=>
   obtain⟨c,σ2⟩:=p
   rw[h1]at h
   cases c<;>simp only[zB,zA]at h
   ·cases h
   ·rw[zO]at h
    have hm2:K3 E o σ σ2=true:=by
     have:=A4n (ρ:=σ2) hm
     rw[←h,this]at hm;exact hm
    rw[A4n hm2]at h;subst h
    obtain⟨τ',h2,h3⟩:=B0w h1 hm hl hN
    rw[h2]
    refine⟨τ',?_,h3⟩
    simp only[zB,A89 hl hm]
theorem A2v (hC:K2 C)(h:G0 E C deep ops o σ some=some σ')(hm:mayDraw E o σ σ'=true)(hl:Loc o σ τ)(hg:∀d w,M8 ops o=some (some d,w)→τ.slots.getD d A1=σ.slots.getD d A1)
  (hN:∀r,σ.look r=none→σ'.look r≠none→τ.look r=none):∃τ',G0 E C deep ops o τ some=some τ'∧Fx E o σ σ' τ τ':=by
 unfold G0 at h⊢
 split at h
 ·rename_i hgt;(try simp only[hgt])
  exact A1s hC h hm hl hN
 ·cases h
 ·rename_i d want hgt
  have hgd:=hg d want hgt
  (try simp only[hgt])
  rw[hgd]
  split at h
  ·rename_i b hb
   (try simp only[hb])
   have hp:=A69 hb
   have hpτ:=A69 (hgd.trans hb)
   cases b<;>cases want<;>simp only[zB,zA]at h⊢<;>rw[hp]at h<;>rw[hpτ]
   ·exact A1s hC h hm hl hN
   ·obtain rfl:=oI h;exact⟨_,rfl,A5a hl⟩
   ·obtain rfl:=oI h;exact⟨_,rfl,A5a hl⟩
   ·exact A1s hC h hm hl hN
  ·rename_i hb
   (try simp only[hb])
   obtain rfl:=oI h;exact⟨_,rfl,A5a hl⟩
  ·cases h
end
end Go.Proofs.Ytalmhjlcjcnidaa.Ev

/- Append, make, literals, variables, stores. -/
import Derived.Test.YtalmhjlcjcnidaaGreatEvOps4
set_option linter.all false
namespace Go.Proofs.YtalmhjlcjcnidaaGreat.Ev
open Go
section
variable {P:Program} {E:Env} {X:Ctx} {σ σ':St} {a:Act} {w w':World} {G:Gh}
theorem G9 {b off:Nat}{e:TypeId}{fr:Nat×Nat}:∀(vs:List Value) (i:Nat) (w:World) (arr:Array Value),w.heap[b]?=some (.cells arr e fr)→NF fr arr.size→
  off+i+vs.length≤arr.size→(∀v∈vs,v.oneCell'=true)→
  ∃(w':World) (arr':Array Value),(storeCells ⟨b,off,none⟩ vs i).run P w= .ok () w'∧w'.heap[b]?=some (.cells arr' e fr)∧arr'.size=arr.size∧
   (∀j,arr'[j]?=if off+i≤j∧j<off+i+vs.length then vs[j - (off+i)]? else arr[j]?)∧(∀q,q≠b→w'.heap[q]?=w.heap[q]?)∧
   w'.heap.size=w.heap.size∧w'.os=w.os∧w'.tape=w.tape∧w'.output=w.output:=by
 intro vs
 induction vs with
 |nil=>
  intro i w arr hb _ _ _
  exact⟨w,arr,by simp[storeCells],hb,rfl,fun j=>by rw[if_neg (by simp)],fun _ _=>rfl,rfl,rfl,rfl,rfl⟩
 |cons v vs ih=>
  intro i w arr hb hnf hle hv
  simp only[zW]at hle
  have hcell:w.cell? ⟨b,off+i,none⟩=some arr[off+i]:=by
   simp[World.cell?,hb,show off+i<arr.size by omega]
  have hfz:w.frozen? ⟨b,off+i,none⟩=false:=by
   have:=hnf (off+i) (by omega)
   simp only[World.frozen?,hb]
   simp;omega
  have hb1:(w.setCell ⟨b,off+i,none⟩ v).heap[b]?=some (.cells (arr.setIfInBounds (off+i) v) e fr):=by
   simp only[World.setCell,Array.getElem?_modify,if_true,hb];rfl
  have hq1:∀q,q≠b→(w.setCell ⟨b,off+i,none⟩ v).heap[q]?=w.heap[q]?:=fun q hq=>by simp only[World.setCell,Array.getElem?_modify];rw[if_neg (fun h=>hq h.symm)]
  obtain⟨w',arr',h1,h2,h3,h4,h5,h6,h7,h8,h9⟩:=ih (i+1) (w.setCell ⟨b,off+i,none⟩ v) (arr.setIfInBounds (off+i) v) hb1 (by simpa using hnf) (by simp;omega) (fun u hu=>hv u (zF _ hu))
  refine⟨w',arr',?_,h2,by rw[h3];simp,fun j=>?_,fun q hq=>by rw[h5 q hq,hq1 q hq],by rw[h6];simp,h7,h8,h9⟩
  ·simp only[storeCells,H4]
   simp[run_store P w _ v .plain (hv v (zM ..)),hcell,hfz,h1]
  ·rw[h4 j]
   by_cases hj:j=off+i
   ·subst hj
    rw[if_neg (by omega),if_pos (by simp)]
    simp[show off+i<arr.size by omega]
   ·by_cases hj2:off+(i+1)≤j∧j<off+(i+1)+vs.length
    ·rw[if_pos hj2,if_pos (by simp;omega)]
     have:j - (off+i)=(j - (off+(i+1)))+1:=by omega
     rw[this,List.getElem?_cons_succ]
    ·rw[if_neg hj2,if_neg (by simp;omega)]
     rw[Array.getElem?_setIfInBounds_ne (by omega)]
theorem A4a (n:Nat):∀(r c:Nat),256≤c→c≤2*n→Builtin.growBy n r c≤2*n
 |0,c,_,h2=>h2
 |r+1,c,h1,h2=>by
  simp only[Builtin.growBy]
  split
  ·exact h2
  ·exact A4a n r _ (by omega) (by omega)
theorem A3d {n c:Nat}(h:c<n):Builtin.nextslicecap n c≤2*n:=by
 unfold Builtin.nextslicecap
 split
 ·omega
 ·split
  ·omega
  ·exact A4a n 4 c (by omega) (by omega)
theorem A3q {n b:Nat}(h:room n b=true):n*b≤140737488355328∧n≤140737488355328:=by simpa[room]using h
theorem run_append_grow {t u e:TypeId}(hu:P.underlying t=some (.slice e)){f:Kd}{eb:Nat}(he:T5 P e f eb)(hn:(∃e',P.underlying u=some (.slice e'))∨P.underlying u=some .string)
  {ts:Array TypeId} {ty:TypeId} (ht:ts[0]?=some t) (ht1:ts[1]?=some u) {p:Option Addr} {len cap:Nat} {x:Value} {m:Nat} {olds vals:List Value}
  (hcap:¬len+m≤cap) (hroom:room (len+m) eb=true)
  (hold:∀w2:World,w2.heap=w.heap→(Builtin.firstCells f.size len (.slice p len cap)).run P w2= .ok olds.toArray w2)
  (hx:∀w2:World,w2.heap=w.heap→(Builtin.lenOf x).run P w2= .ok m w2∧(Builtin.firstCells f.size m x).run P w2= .ok vals.toArray w2)
  (holds:olds.length=len*f.size) (hvals:vals.length=m*f.size):
  ∃(ncap:Nat) (rest:List Value) (w':World),(Builtin.append_ ts ty #[.slice p len cap,x]).run P w= .ok (.slice (some ⟨w.heap.size,0,none⟩) (len+m) ncap) w'∧len+m≤ncap∧
   w'.heap=w.heap.push (.cells (olds++vals++rest).toArray e)∧(olds++vals++rest).length=ncap*f.size∧w'.os=w.os∧w'.tape=w.tape∧w'.output=w.output:=by
 obtain⟨j,z,hj,hsz,hby,hz,hzc⟩:=he
 obtain⟨h1,h2⟩:=hx w rfl
 obtain⟨r1,r2⟩:=A3q hroom
 have hnx:=A3d (n:=len+m) (c:=cap) (by omega)
 have hsmall:¬281474976710656<Builtin.nextslicecap (len+m) cap*j.bytes:=by
  rw[hby]
  have:Builtin.nextslicecap (len+m) cap*eb≤2*(len+m)*eb:=Nat.mul_le_mul_right _ hnx
  rw[Nat.mul_assoc]at this
  omega
 have hmax:¬(9223372036854775807:Int)<(len:Int)+(m:Int):=by omega
 have hfo:(Question.appendCap (len+m) cap e).forced=false:=rfl
 have hcut:len+m≤(Question.appendCap (len+m) cap e).cut (w.tape w.drawn (.appendCap (len+m) cap e)):=by simp[Question.cut]
 generalize hnc:(Question.appendCap (len+m) cap e).cut (w.tape w.drawn (.appendCap (len+m) cap e))=ncap at hcut
 have ho2:=hold w.drew rfl
 have hx2:=(hx w.drew rfl).2
 have hzv:∀w2:World,(zeroValue e).run P w2= .ok z w2:=fun w2=>by simp[zeroValue,run_typeInfo hj,hz]
 have hzs:z.cells.size=f.size:=by rw[←zI1,hzc,E4]
 refine⟨ncap,(Builtin.zeroCells z.cells (ncap - (len+m))).toList,w.drew.alloc (.cells (olds.toArray++(vals.toArray++Builtin.zeroCells z.cells (ncap - (len+m)))) e),?_,hcut,?_,?_,rfl,rfl,rfl⟩
 ·unfold Builtin.append_
  rcases hn with⟨e',hn⟩|hn
  ·simp[ht,ht1,underlying,hu,hn,run_sizeOf hj,hsz,h1,hcap,run_typeInfo hj,hsmall,hmax,hfo,hnc,ho2,hx2,hzv,newRow]
  ·simp[ht,ht1,underlying,hu,hn,run_sizeOf hj,hsz,h1,hcap,run_typeInfo hj,hsmall,hmax,hfo,hnc,ho2,hx2,hzv,newRow]
 ·show w.heap.push _=w.heap.push _
  congr 2
  apply Array.ext'
  simp
 ·simp[holds,hvals,Builtin.zeroCells,hzs]
  rw[←zD1,←zD1]
  congr 1;omega
theorem run_append_fits {t u e:TypeId}(hu:P.underlying t=some (.slice e)){f:Kd}{eb:Nat}(he:T5 P e f eb)(hn:(∃e',P.underlying u=some (.slice e'))∨P.underlying u=some .string)
  {ts:Array TypeId} {ty:TypeId} (ht:ts[0]?=some t) (ht1:ts[1]?=some u) {b len cap:Nat} {x:Value} {m:Nat} {vals:List Value} {arr:Array Value} {e2:TypeId} {fr:Nat×Nat}
  (hcap:len+m≤cap) (hb:w.heap[b]?=some (.cells arr e2 fr)) (hnf:NF fr arr.size) (harr:arr.size=cap*f.size)
  (hx:∀w2:World,w2.heap=w.heap→(Builtin.lenOf x).run P w2= .ok m w2∧(Builtin.firstCells f.size m x).run P w2= .ok vals.toArray w2)
  (hvals:vals.length=m*f.size) (hone:∀v∈vals,v.oneCell'=true):
  ∃(w':World) (arr':Array Value),(Builtin.append_ ts ty #[.slice (some ⟨b,0,none⟩) len cap,x]).run P w= .ok (.slice (some ⟨b,0,none⟩) (len+m) cap) w'∧
   w'.heap[b]?=some (.cells arr' e2 fr)∧arr'.size=arr.size∧(∀j,arr'[j]?=if len*f.size≤j∧j<len*f.size+m*f.size then vals[j - len*f.size]? else arr[j]?)∧
   (∀q,q≠b→w'.heap[q]?=w.heap[q]?)∧w'.heap.size=w.heap.size∧w'.os=w.os∧w'.tape=w.tape∧w'.output=w.output:=by
 obtain⟨j,z,hj,hsz,hby,hz,hzc⟩:=he
 obtain⟨h1,h2⟩:=hx w rfl
 have hle:len*f.size+0+vals.length≤arr.size:=by
  rw[hvals,harr,Nat.add_zero,←zD1];exact Nat.mul_le_mul_right _ hcap
 obtain⟨w',arr',k1,k2,k3,k4,k5,k6,k7,k8,k9⟩:=G9 (P:=P) (off:=len*f.size) vals 0 w arr hb hnf hle hone
 refine⟨w',arr',?_,k2,k3,fun j=>by rw[k4 j,hvals];simp,k5,k6,k7,k8,k9⟩
 unfold Builtin.append_
 rcases hn with⟨e',hn⟩|hn
 ·simp[ht,ht1,underlying,hu,hn,run_sizeOf hj,hsz,h1,hcap,h2,H4,k1]
 ·simp[ht,ht1,underlying,hu,hn,run_sizeOf hj,hsz,h1,hcap,h2,H4,k1]
theorem A2.ones {o:Bool}{h:Array Obj}:∀{f:Kd} {x:f.T} {vs:List Value} {S:Nat→Prop},A2 o h f x vs S→∀v∈vs,v.oneCell'=true
 | .int _,_,_,_,hc,v,hv=>by simp only[A2]at hc;subst hc;simp at hv;subst hv;rfl
 | .bool,_,_,_,hc,v,hv=>by simp only[A2]at hc;subst hc;simp at hv;subst hv;rfl
 | .str,_,_,_,hc,v,hv=>by simp only[A2]at hc;subst hc;simp at hv;subst hv;rfl
 | .sl f,_,vs,_,hc,v,hv=>by
  have hl:=hc.len
  match vs,hl with
  |[u],_=>simp at hv;subst hv;exact hc.one
 | .pair a b,p,vs,S,hc,v,hv=>by
  simp only[A2]at hc
  obtain⟨v1,v2,side,rfl,h1,h2⟩:=hc
  rcases zY.mp hv with hv|hv
  ·exact A2.ones h1 v hv
  ·exact A2.ones h2 v hv
theorem A4p {f:Kd}{ys:List f.T}{vals:List Value}(hl:vals.length=ys.length*f.size){o:Bool}{h:Array Obj}{S:Nat→Nat→Prop}
  (hel:∀(i:Nat) (y:f.T),ys[i]?=some y→A2 o h f y ((vals.drop (i*f.size)).take f.size) (S i)):∀v∈vals,v.oneCell'=true:=by
 intro v hv
 obtain⟨j,hj,rfl⟩:=List.getElem_of_mem hv
 have hpos:=f.size_pos
 have hi:j / f.size<ys.length:=by rw[Nat.div_lt_iff_lt_mul hpos];omega
 have:=(hel _ _ (List.getElem?_eq_getElem hi)).ones
 refine this _ ?_
 refine List.mem_of_getElem? (i:=j % f.size) ?_
 rw[List.getElem?_take,if_pos (Nat.mod_lt _ hpos),List.getElem?_drop]
 have e:j / f.size*f.size+j % f.size=j:=by rw[Nat.mul_comm];exact Nat.div_add_mod j f.size
 rw[e,List.getElem?_eq_getElem hj]
theorem T4 {arr:Array Value}{o n q:Nat}(h:n≤q):(seg arr o n)[q]?=none:=by
 apply List.getElem?_eq_none;simp only[seg,List.length_take];omega
theorem B8 {a1 a2:Array Value}{o1 o2 n:Nat}(h:∀q,q<n→a1[o1+q]?=a2[o2+q]?):seg a1 o1 n=seg a2 o2 n:=by
 apply List.ext_getElem?
 intro q
 by_cases hq:q<n
 ·rw[C5 hq,C5 hq,h q hq]
 ·rw[T4 (by omega),T4 (by omega)]
theorem A1f {arr:Array Value}{l:List Value}{o c n:Nat}(h:∀q,q<n→arr[o+q]?=l[c+q]?):seg arr o n=(l.drop c).take n:=by
 apply List.ext_getElem?
 intro q
 by_cases hq:q<n
 ·rw[C5 hq,h q hq,List.getElem?_take,if_pos hq,List.getElem?_drop]
 ·rw[T4 (by omega),List.getElem?_take,if_neg hq]
theorem D7 {i n sz q:Nat}(hi:i<n)(hq:q<sz):i*sz+q<n*sz:=by
 have:(i+1)*sz≤n*sz:=Nat.mul_le_mul_right _ hi
 rw[zD1,Nat.one_mul]at this
 omega
theorem V3 (hs:Sim X σ a w G){o:Oper}{f:Kd}{eb:Nat}{t u e:TypeId}(hu:P.underlying t=some (.slice e))(he:T5 P e f eb)
  (hn:(∃e',P.underlying u=some (.slice e'))∨P.underlying u=some .string) {c:Call} (ho:o.op= .call c) (hc:c.callee= .builtin .append) {x y:Operand} (hargs:c.args=#[x,y])
  (ht:c.argTypes[0]?=some t) (ht1:c.argTypes[1]?=some u) {dst used:List Nat} {xs ys:List f.T} {p:Option Addr} {cap:Nat} (hx:a.eval x= .slice p xs.length cap)
  (hdst:(p=none∧cap=0∧xs=[])∨∃r,r∈dst∧σ.look r=some (.data f xs)∧G.hv r= .slice p xs.length cap)
  (hdall:∀r∈dst,∃g zs,σ.look r=some (.data g zs)) (hsrc:A7e P X σ w G f (a.eval y) ys used) (huall:∀r∈used,∃g zs,σ.look r=some (.data g zs)) (hudeep:∀r∈used,X.deep=true)
  (hdis:∀r∈dst,r∉used) (hroom:room (xs.length+ys.length) eb=true) (h:(σ.kill (dst++used)).fresh o 0 f (xs++ys)=some σ'):B1 P X o σ' a w:=by
 obtain⟨vals,own,v1,v2,v3⟩:=hsrc
 have hall:∀r∈dst++used,∃g zs,σ.look r=some (.data g zs):=by
  intro r hr
  rcases zY.mp hr with hr|hr
  ·exact hdall r hr
  ·exact huall r hr
 have hrun:∀{v:Value} {w':World},(Builtin.append_ c.argTypes o.type #[.slice p xs.length cap,a.eval y]).run P w= .ok v w'→(execOp a.eval o).run P w= .ok (.value v) w':=by
  intro v w' hr
  simp[execOp,ho,resolve,hc,hargs,hx,invoke,builtin,hr]
 have hones:=A4p v1 v3
 have hview:(p=none∧cap=0∧xs=[])∨∃r b arr e2 fr,∃ow:Nat→Nat,r∈dst∧p=some ⟨b,0,none⟩∧xs.length≤cap∧G.rt b=some r∧σ.look r=some (.data f xs)∧w.heap[b]?=some (.cells arr e2 fr)∧
   arr.size=cap*f.size∧NK f fr arr.size∧∀(i:Nat) (z:f.T),xs[i]?=some z→A2 X.deep w.heap f z (seg arr (i*f.size) f.size) (C0 X σ w.heap G r b i ow):=by
  rcases hdst with h|⟨r,hr,hl,hv⟩
  ·exact .inl h
  ·rcases hs.row r _ hl with⟨e,d⟩|⟨b,cap',arr,e2,fr,ow,d1,d2,d3,d4,d5,d6,d7⟩
   ·rw[hv]at d;simp at d;exact .inl ⟨d.1,d.2.2,e⟩
   ·rw[hv]at d1;simp at d1;obtain⟨rfl,rfl⟩:=d1
    exact .inr ⟨r,b,arr,e2,fr,ow,hr,rfl,d2,d3,hl,d4,d5,d6,d7⟩
 by_cases hcap:xs.length+ys.length≤cap
 · -- it fits
  rcases hview with⟨rfl,rfl,rfl⟩|⟨r,b,arr,e2,fr,ow,k1,rfl,k3,k4,k5,k6,k7,k8,k9⟩
  ·have hy0:ys=[]:=List.length_eq_zero_iff.mp (by simpa using hcap)
   subst hy0
   have hrun0:(Builtin.append_ c.argTypes o.type #[.slice none 0 0,a.eval y]).run P w= .ok (.slice none 0 0) w:=by
    obtain⟨h1,h2⟩:=v2 w rfl
    obtain⟨j,z,hj,hsz,_⟩:=he
    simp only[zX]at h1 h2
    unfold Builtin.append_
    rcases hn with⟨e',hn⟩|hn
    ·simp[ht,ht1,underlying,hu,hn,run_sizeOf hj,hsz,h1,h2]
    ·simp[ht,ht1,underlying,hu,hn,run_sizeOf hj,hsz,h1,h2]
   refine B1.fresh hs (used:=dst++used) (own:=[]) hall h (hrun hrun0) rfl (Nat.le_refl _) rfl rfl rfl (fun q _ _=>rfl) (fun _=> .inl ⟨rfl,Gh.take_hv⟩)
  ·obtain⟨w',arr',r1,r2,r3,r4,r5,r6,r7,r8,r9⟩:=run_append_fits (P:=P) (w:=w) hu he hn ht ht1 (ty:=o.type) hcap k6 k8.1 k7 v2 v1 hones
   have hru:r∉used:=hdis r k1
   have hbo:∀q,U6 X σ w.heap G used q→q≠b:=by
    rintro q hq rfl
    rcases hq with⟨r',hr',e⟩|⟨_,hi⟩
    ·rw[k4]at e;obtain rfl:=oI e;exact hru hr'
    ·exact hi.2.2 r k4 ⟨_,k5,by simp⟩
   refine B1.fresh hs (used:=dst++used) (own:=dst++used) hall h (hrun r1) rfl (by omega) r7 r8 r9 (fun q hq hno=>r5 q fun e=>hno r (zZ _ k1) (by rw[e];exact k4)) (fun nn=>?_)
   refine .inr ⟨b,cap,arr',e2,fr,fun q=>match G.rt q with|some r'=>if r'∈dst then ow q else xs.length+own q|none=>0,by rw[Gh.take_hv,List.length_append],by simpa using hcap,
    by rw[Gh.take_rt (hs.lt b r k4) k4,if_pos (zZ _ k1),if_pos (zZ _ k1)],r2,by rw[r3,k7],by rw[r3];exact k8,fun i z hz=>?_⟩
   rw[List.getElem?_append]at hz
   split at hz
   ·rename_i hi
    have e1:seg arr' (i*f.size) f.size=seg arr (i*f.size) f.size:=B8 fun q hq=>by
     have:=D7 (n:=xs.length) hi hq
     rw[r4,if_neg (by omega)]
    rw[e1]
    have hel:=k9 i z hz
    have hne:∀q,C0 X σ w.heap G r b i ow q→q≠b:=by
     rintro q hq rfl
     unfold C0 at hq
     split at hq
     ·exact hq.2.1 rfl
     ·exact hq.2.2 r k4 ⟨_,k5,by simp⟩
    refine(A2.congr (fun q hq=>r5 q (hne q hq)) hel).mono fun q hq=>?_
    have hq':=hne q hq
    unfold C0 at hq⊢
    split at hq
    ·rename_i hd
     rw[if_pos hd]
     refine⟨by rw[Gh.take_rt (hs.lt q r hq.1) hq.1,if_pos (zZ _ k1),if_pos (zZ _ k1)],hq',?_⟩
     simp only[hq.1,if_pos k1];exact hq.2.2
    ·rename_i hd
     rw[if_neg hd]
     exact A1i hall (by omega) hq
   ·rename_i hi
    obtain⟨k,rfl⟩:∃k,i=xs.length+k:=⟨i - xs.length,by omega⟩
    rw[Nat.add_sub_cancel_left]at hz
    have hk:k<ys.length:=(List.getElem?_eq_some_iff.mp hz).1
    have e1:seg arr' ((xs.length+k)*f.size) f.size=(vals.drop (k*f.size)).take f.size:=by
     refine A1f fun q hq=>?_
     have:=D7 (n:=ys.length) hk hq
     rw[r4,if_pos (by rw[zD1];omega)]
     congr 1
     rw[zD1];omega
    rw[e1]
    refine(A2.congr (fun q hq=>r5 q (hbo q hq.1)) (v3 k z hz)).mono fun q hq=>?_
    unfold C0
    split
    ·rename_i hd
     rcases hq.1 with⟨r',hr',e⟩|⟨hf,_⟩
     ·refine⟨by rw[Gh.take_rt (hs.lt q r' e) e,if_pos (zA1 _ hr'),if_pos (zA1 _ hr')],hbo q hq.1,?_⟩
      simp only[e,if_neg (fun h=>hdis r' h hr')];rw[hq.2 hd]
     ·rw[hd]at hf;cases hf
    ·rename_i hd
     rcases hq.1 with⟨r',hr',e⟩|⟨_,hi⟩
     ·exact absurd (hudeep r' hr') hd
     ·exact A1i hall (by omega) hi
 · -- it grows
  have holds:∃olds:List Value,olds.length=xs.length*f.size∧(∀w2:World,w2.heap=w.heap→(Builtin.firstCells f.size xs.length (.slice p xs.length cap)).run P w2= .ok olds.toArray w2)∧
    ∃ow:Nat→Nat,∀(i:Nat) (z:f.T),xs[i]?=some z→A2 X.deep w.heap f z ((olds.drop (i*f.size)).take f.size) (fun q=>U6 X σ w.heap G dst q∧(X.deep=true→ow q=i)):=by
   rcases hview with⟨_,_,rfl⟩|⟨r,b,arr,e2,fr,ow,k1,rfl,k3,k4,k5,k6,k7,k8,k9⟩
   ·refine⟨[],by simp,fun w2 _=>?_,fun _=>0,by simp⟩
    cases p<;>simp[Builtin.firstCells,loadCells,loadCellsFrom]
   ·have hlens:(seg arr 0 (xs.length*f.size)).length=xs.length*f.size:=A3r f.size_pos fun i hi=>by rw[zS];exact(k9 i _ (List.getElem?_eq_getElem hi)).len
    refine⟨seg arr 0 (xs.length*f.size),hlens,fun w2 hw=>?_,ow,fun i z hz=>?_⟩
    ·simp only[Builtin.firstCells]
     exact F7 (w:=w2) (by rw[hw];exact k6) hlens
    ·rw[A1g (List.getElem?_eq_some_iff.mp hz).1,zS]
     refine(k9 i z hz).mono fun q hq=>?_
     unfold C0 at hq
     split at hq
     ·exact⟨.inl ⟨r,k1,hq.1⟩,fun _=>hq.2.2⟩
     ·rename_i hd
      exact⟨.inr ⟨by simpa using hd,hq⟩,fun h=>absurd h hd⟩
  obtain⟨olds,o1,o2,ow,o3⟩:=holds
  obtain⟨ncap,rest,w',r1,r2,r3,r4,r5,r6,r7⟩:=run_append_grow (P:=P) (w:=w) hu he hn ht ht1 (ty:=o.type) hcap hroom o2 v2 o1 v1
  have hsz:w'.heap.size=w.heap.size+1:=by rw[r3];simp
  refine B1.fresh hs (used:=dst++used) (own:=if X.deep=true then dst++used else []) hall h (hrun r1) rfl (by omega) r5 r6 r7 (fun q hq _=>by rw[r3,Array.getElem?_push,if_neg (by omega)]) (fun nn=>?_)
  rw[←List.length_append]
  refine A2t hs hall (fun r hr hd=>by rw[if_pos hd];exact hr) (fun hd r _ _=>by rw[hd];simp) (arr:=(olds++vals++rest).toArray) (e:=e) (fr:=(0,0))
   (by rw[r3];simp) (fun q hq=>by rw[r3,Array.getElem?_push,if_neg (by omega)]) (by simpa using r2) (by simpa using r4) NK.new
   (ow:=fun q=>match G.rt q with|some r=>if r∈dst then ow q else xs.length+own q|none=>0) fun i z hz=>?_
  rw[List.getElem?_append]at hz
  split at hz
  ·rename_i hi
   have e1:seg (olds++vals++rest).toArray (i*f.size) f.size=(olds.drop (i*f.size)).take f.size:=by
    refine A1f fun q hq=>?_
    have:=D7 (n:=xs.length) hi hq
    rw[List.getElem?_toArray,List.append_assoc,List.getElem?_append_left (by rw[o1];exact this)]
   rw[e1]
   refine(o3 i z hz).mono fun q hq=>⟨hq.1.mono fun r hr=>zZ _ hr,fun hd=>?_⟩
   rcases hq.1 with⟨r,hr,e⟩|⟨hf,_⟩
   ·simp only[e,if_pos hr];exact hq.2 hd
   ·rw[hd]at hf;cases hf
  ·rename_i hi
   obtain⟨k,rfl⟩:∃k,i=xs.length+k:=⟨i - xs.length,by omega⟩
   rw[Nat.add_sub_cancel_left]at hz
   have hk:k<ys.length:=(List.getElem?_eq_some_iff.mp hz).1
   have e1:seg (olds++vals++rest).toArray ((xs.length+k)*f.size) f.size=(vals.drop (k*f.size)).take f.size:=by
    refine A1f fun q hq=>?_
    have:=D7 (n:=ys.length) hk hq
    rw[List.getElem?_toArray,List.append_assoc,List.getElem?_append_right (by rw[o1,zD1];omega),List.getElem?_append_left (by rw[o1,zD1,v1];omega)]
    congr 1
    rw[o1,zD1];omega
   rw[e1]
   refine(v3 k z hz).mono fun q hq=>⟨hq.1.mono fun r hr=>zA1 _ hr,fun hd=>?_⟩
   rcases hq.1 with⟨r,hr,e⟩|⟨hf,_⟩
   ·simp only[e,if_neg (fun h=>hdis r h hr)];rw[hq.2 hd]
   ·rw[hd]at hf;cases hf
end
end Go.Proofs.YtalmhjlcjcnidaaGreat.Ev

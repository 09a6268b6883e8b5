/- Calls: the contract between caller and callee, and the caller's side. -/
import Derived.Test.YtalmhjlcjcnidaaEvOps9
set_option linter.all false
namespace Go.Proofs.Ytalmhjlcjcnidaa.Ev
open Go
def A3y (S:Nat→Prop)(h:Array Obj)(f:Kd)(x:f.T)(c:Nat)(v:Value):Prop:=
 ∃(b o:Nat) (arr:Array Value) (e:TypeId) (fr:Nat×Nat),v= .pointer (some ⟨b,o+c,none⟩)∧h[b]?=some (.cells arr e fr)∧S b∧A2 false h f x (seg arr o f.size) S
def B1u (S:Nat→Prop)(h:Array Obj):Cap→Value→Prop
 | .sh f x,v=>A3y S h f x 0 v
 | .own _,_=>False
def LA (S:Nat→Prop)(ow:Nat→Option Nat)(h:Array Obj)(j:Nat):A0→Value→Prop
 | .int k n,v=>v= .int k n
 | .bool b,v=>v= .bool b
 | .str s,v=>v= .string s
 | .sh f xs,v=>A2 false h (.sl f) xs [v] S
 | .od f xs,v=>A2 true h (.sl f) xs [v] (fun q=>ow q=some j)
 | .spt f x c,v=>A3y S h f x c v
 | .clo g caps,v=>∃vs:List Value,v= .func (.func g) #[] vs.toArray∧A7 (B1u S h) caps vs
 |_,_=>False
inductive F0 (R:Nat→A0→Value→Prop):Nat→List A0→List Value→Prop
 |nil {j:Nat}:F0 R j [] []
 |cons {j:Nat} {l:A0} {v:Value} {ls:List A0} {vs:List Value}:R j l v→F0 R (j+1) ls vs→F0 R j (l::ls) (v::vs)
def F2:TV→List Value→Value→Prop
 | .one _,us,v=>us=[v]
 | .agg ls,us,v=>v= .agg us.toArray∧us.length=ls.length
def E5:List TV→List Value→List Value→Prop
 |[],us,vs=>us=[]∧vs=[]
 |x::xs,us,vs=>∃u1 u2 v vs',us=u1++u2∧vs=v::vs'∧F2 x u1 v∧E5 xs u2 vs'
def A0v:AV→List Value→Value→Prop
 | .v x,us,v=>F2 x us v
 | .tup xs,us,v=>∃vs:List Value,v= .tuple vs.toArray∧E5 xs us vs
def A3x (ow:Nat→Option Nat)(h:Array Obj)(p:Nat)(md:Md)(x:TV)(us:List Value)(v:Value):Prop:=match md with
 | .bx f=>∃(ls:List A0) (b:Nat) (arr:Array Value) (e:TypeId) (fr:Nat×Nat),x= .agg ls∧v= .pointer (some ⟨b,0,none⟩)∧h[b]?=some (.cells arr e fr)∧NF fr arr.size∧
   us=arr.toList∧ls.length=f.size∧ow b=some (key (some p) 63)
 |_=>F2 x us v
def H5 (S:Nat→Prop)(ow:Nat→Option Nat)(h:Array Obj)(ms:List Md):Nat→List TV→List Value→Prop
 |_,[],vs=>vs=[]
 |p,x::xs,vs=>∃us v vs',vs=v::vs'∧F0 (fun j=>LA S ow h (key (some p) j)) 0 x.leaves us∧A3x ow h p (B0 ms p) x us v∧H5 S ow h ms (p+1) xs vs'
def N3:List A0→List Value→List Value
 | .od _ _::ls,u::us=>u::N3 ls us
 |_::ls,_::us=>N3 ls us
 |_,_=>[]
def A1q:TV→Value→List Value
 | .one _,v=>[v]
 | .agg _,.agg vs=>vs.toList
 | .agg _,_=>[]
def C8 (ms:List Md):Nat→List TV→List Value→List Value
 |i,x::xs,v::vs=>(match B0 ms i with
   | .io=>N3 x.leaves (A1q x v)
   | .bx _=>[v]
   |_=>[])++C8 ms (i+1) xs vs
 |_,_,_=>[]
def A76 (rs:List Value):Value:=if h:rs.length=1 then rs[0]else .tuple rs.toArray
def A0w (h:Array Obj)(ow:Nat→Option Nat):Nat→List Value→List Value→Prop
 |_,[],cs=>cs=[]
 |n,v::vs,cs=>∃c cs',cs=c::cs'∧A0w h ow (n+1) vs cs'∧((∃a n m,v= .slice a n m)∧c=v∨
   ∃(b:Nat) (arr:Array Value) (e:TypeId) (fr:Nat×Nat),v= .pointer (some ⟨b,0,none⟩)∧h[b]?=some (.cells arr e fr)∧NF fr arr.size∧c= .agg arr∧ow b=some n)
def B0j (rb:Bool)(h:Array Obj)(ow:Nat→Option Nat)(out:AV)(pv:List Value)(v vo:Value):Prop:=match rb with
 |true=>pv=[]∧∃(ys:List TV) (cs:List Value) (b:Nat),out= .tup ys∧v= .pointer (some ⟨b,0,none⟩)∧vo= .tuple cs.toArray∧A0w h ow out.leaves.length [v] cs
 |false=>(pv=[]∧vo=v)∨(pv≠[]∧∃(ys:List TV) (rs cs:List Value),out= .tup ys∧v=A76 rs∧vo= .tuple (rs++cs).toArray∧A0w h ow out.leaves.length pv cs)
def A7c:A0→Prop
 | .spt _ _ _| .clo _ _=>False
 |_=>True
structure A1l (S:Nat→Prop) (ow0:Nat→Option Nat) (w w':World) (rb:Bool) (pv:List Value) (out:AV) (v:Value):Prop where
 os:w'.os=w.os
 tape:w'.tape=w.tape
 output:w'.output=w.output
 size:w.heap.size≤w'.heap.size
 frame:∀q,q<w.heap.size→ow0 q=none→w'.heap[q]?=w.heap[q]?
 ret:∃(ow1:Nat→Option Nat) (us:List Value) (vo:Value),(∀q j,ow1 q=some j→q<w'.heap.size∧(w.heap.size≤q∨ow0 q≠none))∧(∀l∈out.leaves,A7c l)∧
  F0 (LA (fun q=>q<w'.heap.size∧(S q∨ow0 q≠none∨w.heap.size≤q)∧ow1 q=none) ow1 w'.heap) 0 out.leaves us∧A0v out us vo∧B0j rb w'.heap ow1 out pv v vo
def N0 (P:Program)(ms:List Md)(rb:Bool)(g:Nat)(as:List TV)(out:AV):Prop:=
 (∀(args:Array Value) (w:World),(callFunc g args).run P w= .ok (.enter g args) w)∧
 ∀(w:World) (vs:List Value) (S:Nat→Prop) (ow0:Nat→Option Nat),(∀q,S q→q<w.heap.size∧ow0 q=none)→(∀q j,ow0 q=some j→q<w.heap.size)→
  H5 S ow0 w.heap ms 0 as vs→Calls P g vs.toArray w fun
   | .returned v,w'=>A1l S ow0 w w' rb (C8 ms 0 as vs) out v
   |_,_=>False
def A2m (P:Program)(E:Env)(C:CF):Prop:=∀(R:Type) (g:Nat) (as:List TV) (κ:AV→Option R) (r:R),C R g as κ=some r→∃out,N0 P (E.sig g).modes (E.sig g).rbx.isSome g as out∧κ out=some r

section
variable {P:Program} {E:Env} {X:Ctx} {σ σ':St} {a:Act} {w w':World} {G:Gh}
theorem F0.all2 {R:Nat→A0→Value→Prop}{R':A0→Value→Prop}(h:∀j l v,R j l v→R' l v):∀{j:Nat} {ls:List A0} {vs:List Value},F0 R j ls vs→A7 R' ls vs
 |_,_,_,.nil=> .nil
 |_,_,_,.cons h1 h2=> .cons (h _ _ _ h1) (F0.all2 h h2)
theorem F0.append {R:Nat→A0→Value→Prop}:∀{j:Nat} {l1:List A0} {v1:List Value} {l2:List A0} {v2:List Value},F0 R j l1 v1→F0 R (j+l1.length) l2 v2→F0 R j (l1++l2) (v1++v2)
 |_,_,_,_,_,.nil,h=>by simpa using h
 |_,_::t,_,_,_,.cons h1 h2,h=> .cons h1 (F0.append h2 (by rw[zW]at h;rwa[Nat.add_right_comm,Nat.add_assoc]))
theorem F0.length {R:Nat→A0→Value→Prop}:∀{j:Nat} {ls:List A0} {vs:List Value},F0 R j ls vs→ls.length=vs.length
 |_,_,_,.nil=>rfl
 |_,_,_,.cons _ h=>by simp[F0.length h]
theorem F0.mono {R R':Nat→A0→Value→Prop}(h:∀j l v,R j l v→R' j l v):∀{j:Nat} {ls:List A0} {vs:List Value},F0 R j ls vs→F0 R' j ls vs
 |_,_,_,.nil=> .nil
 |_,_,_,.cons h1 h2=> .cons (h _ _ _ h1) (F0.mono h h2)
theorem A78 {r:Nat}{f:Kd}{xs:List f.T}{h:Array Obj}{T:Nat→Prop}(hr:E7 X σ h G r (.data f xs))(hf:(X.deep||f.flat)=true)(hT:∀q,G.rt q=some r→T q):A2 true h (.sl f) xs [G.hv r] T:=by
 simp only[A2]
 rcases hr with⟨rfl,e⟩|⟨b,cap,arr,e,fr,ow,d1,d2,d3,d4,d5,d6,d7⟩
 ·exact .inl ⟨rfl,none,0,by rw[e],fun _=>⟨rfl,rfl⟩⟩
 ·refine .inr ⟨b,0,cap,arr,e,fr,ow,by rw[d1],d2,hT b d3,d4,fun _=>⟨rfl,d5,d6⟩,fun i x hx=>?_⟩
  rw[zS]
  have:=d7 i x hx
  cases hd:X.deep
  ·rw[hd]at hf
   exact A2.flatAny (by simpa using hf) this
  ·rw[hd]at this
   refine this.mono fun q hq=>?_
   unfold C0 at hq
   rw[if_pos hd]at hq
   exact⟨hT q hq.1,fun _=>hq.2⟩
theorem A8d {r len:Nat}{f:Kd}{xs:List f.T}{h:Array Obj}{T:Nat→Prop}{v:Value}(hr:E7 X σ h G r (.data f xs))(hf:(X.deep||f.flat)=true)(hT:∀q,G.rt q=some r→T q)(hle:len≤xs.length)(hh:B08 (G.hv r) len v):
  A2 true h (.sl f) (xs.take len) [v] T:=by
 simp only[A2]
 rcases hr with⟨rfl,e⟩|⟨b,cap,arr,e,fr,ow,d1,d2,d3,d4,d5,d6,d7⟩
 ·rcases hh with⟨_,_,q2⟩|⟨b,n,cap,q1,_⟩
  ·exact .inl ⟨by simp,none,0,by rw[q2],fun _=>⟨rfl,rfl⟩⟩
  ·rw[e]at q1;simp at q1
 ·rcases hh with⟨_,q1,_⟩|⟨b',n,cap',q1,q2⟩
  ·rw[d1]at q1;simp at q1
  ·rw[d1]at q1;simp at q1;obtain⟨rfl,rfl,rfl⟩:=q1
   have hl:(xs.take len).length=len:=by simp;omega
   refine .inr ⟨b,0,cap,arr,e,fr,ow,by rw[q2,hl],by omega,hT b d3,d4,fun _=>⟨rfl,d5,d6⟩,fun i x hx=>?_⟩
   rw[zS]
   have hx':xs[i]?=some x:=by
    rw[List.getElem?_take]at hx
    split at hx
    ·exact hx
    ·cases hx
   have:=d7 i x hx'
   cases hd:X.deep
   ·rw[hd]at hf
    exact A2.flatAny (by simpa using hf) this
   ·rw[hd]at this
    refine this.mono fun q hq=>?_
    unfold C0 at hq
    rw[if_pos hd]at hq
    exact⟨hT q hq.1,fun _=>hq.2⟩
theorem A9x {h:Array Obj}{f:Kd}{xs:List f.T}{S:Nat→Prop}{b off cap cap' n len:Nat}(hc:A2 false h (.sl f) xs [.slice (some ⟨b,0,none⟩) n cap] S)(hle:off+len≤xs.length)(hl:len≤cap'):
  A2 false h (.sl f) ((xs.drop off).take len) [.slice (some ⟨b,off*f.size,none⟩) len cap'] S:=by
 have hlen:((xs.drop off).take len).length=len:=by simp;omega
 simp only[A2]at hc⊢
 rcases hc with⟨rfl,a,c,e,_⟩|⟨b',off',cap2,arr,e,fr,ow,e1,e2,e3,e4,e5,e6⟩
 ·have:len=0:=by simp at hle;omega
  subst this
  exact .inl ⟨by simp,_,_,rfl,by simp⟩
 ·simp at e1
  obtain⟨⟨rfl,rfl⟩,_,rfl⟩:=e1
  refine .inr ⟨b,off*f.size,cap',arr,e,fr,ow,by rw[hlen],by omega,e3,e4,by simp,fun i x hx=>?_⟩
  have hi:i<len:=by rw[←hlen];exact(List.getElem?_eq_some_iff.mp hx).1
  rw[List.getElem?_take,if_pos hi,List.getElem?_drop]at hx
  have:=e6 _ _ hx
  rw[zD1,zS]at this
  exact this.mono fun q hq=>⟨hq.1,by simp⟩
theorem A5b {r off len:Nat}{f:Kd}{xs:List f.T}{h:Array Obj}{S:Nat→Prop}{v:Value}(hr:E7 X σ h G r (.data f xs))(hlk:σ.look r=some (.data f xs))(hl:A5 X σ h G (.sub r off len) v)
  (hS:∀q,G.rt q=some r→S q) (hI:∀q,Imm X σ h G q→S q):A2 false h (.sl f) ((xs.drop off).take len) [v] S:=by
 obtain⟨h1,h2⟩:=hl.2 _ _ (St.dat_of hlk)
 rcases h2 with⟨rfl,p,c,e⟩|⟨b,n,cap,c',e1,e2,e3⟩
 ·simp only[A2]
  exact .inl ⟨by simp,p,c,by rw[e],by simp⟩
 ·have:=A1d hr hS hI
  rw[e1]at this
  rw[e2]
  exact A9x this h1 e3
theorem Sim.freeze1 (hs:Sim X σ a w G){r:Nat}{f:Kd}{xs:List f.T}(hr:σ.look r=some (.data f xs)):Sim X ((σ.map (G7 r f xs)).kill [r]) a w G:=by
 have hlive:∀q,Imm X σ w.heap G q→Imm X ((σ.map (G7 r f xs)).kill [r]) w.heap G q:=fun q hq=>((A5z (X:=X)).imm q hq).1
 have hown:∀q,G.rt q=some r→Imm X ((σ.map (G7 r f xs)).kill [r]) w.heap G q:=by
  intro q hq
  refine⟨hs.lt q r hq,?_,fun r' hr'=>?_⟩
  ·by_cases h:X.w0.heap.size≤q
   ·exact .inr (.inr h)
   ·exact .inr (.inl (hs.ownA q r hq ⟨_,hr,by simp⟩ (by omega)))
  ·rw[hq]at hr';obtain rfl:=oI hr'
   rintro⟨row,h1,h2⟩
   rw[A9,if_pos (by simp)]at h1
   exact h2 (oI h1).symm
 refine hs.mapK (g:=G7 r f xs) (ks:=[r]) rfl ?_ ?_
 ·intro l q hq
  cases l<;>simp only[G7]at hq⊢<;>try exact hq
  case ow n=>
    cases hb:Nat.beq n r<;>simp only[hb,zB,zA]at hq
    ·exact hq
    ·simp[A0.refs]at hq
  case sub n o m=>
    cases hb:Nat.beq n r<;>simp only[hb,zB,zA]at hq
    ·exact hq
    ·simp[A0.refs]at hq
  case pa n o m=>
    cases hb:Nat.beq n r<;>simp only[hb,zB,zA]at hq
    ·exact hq
    ·simp[A0.refs]at hq
  case ptr n o m=>
    cases hb:Nat.beq n r<;>simp only[hb,zB,zA]at hq
    ·exact hq
    ·simp[A0.refs]at hq
 ·intro l v hl
  have hl':A5 X ((σ.map (G7 r f xs)).kill [r]) w.heap G l v:=A5.mapK hl
  cases l<;>simp only[G7]<;>try exact hl'
  case ow n=>
   cases hb:Nat.beq n r<;>simp only[zB,zA]
   ·exact hl'
   ·have e:=zN hb;subst e
    rw[hl.2 f xs (St.dat_of hr)]
    exact A1d (hs.row n _ hr) hown hlive
  case sub n o m=>
   cases hb:Nat.beq n r<;>simp only[zB,zA]
   ·exact hl'
   ·have e:=zN hb;subst e
    exact A5b (hs.row n _ hr) hr hl hown hlive
  case pa n o m=>
   cases hb:Nat.beq n r<;>simp only[zB,zA]
   ·exact hl'
   ·exact hl.1
  case ptr n o m=>
   cases hb:Nat.beq n r<;>simp only[zB,zA]
   ·exact hl'
   ·exact hl.1
theorem Sim.freeze:∀{rs:List Nat} {σ τ:St},Sim X σ a w G→σ.freeze rs=some τ→Sim X τ a w G∧(∀q,Imm X σ w.heap G q→Imm X τ w.heap G q)∧(∀q,∀r∈rs,G.rt q=some r→σ.live r→Imm X τ w.heap G q)∧
  (∀r,r∉rs→∀f xs,σ.look r=some (.data f xs)→τ.look r=some (.data f xs))∧(∀r row,σ.look r=some row→∃row',τ.look r=some row')∧(∀r,τ.live r→σ.live r)
 |[],σ,τ,hs,h=>by
  simp only[St.freeze,zO]at h;subst h
  exact⟨hs,fun q h=>h,by simp,fun r _ f xs h=>h,fun r row h=>⟨row,h⟩,fun r h=>h⟩
 |r::rs,σ,τ,hs,h=>by
  simp only[St.freeze]at h
  split at h
  ·rename_i f xs hr
   have hlk:∀q,((σ.map (G7 r f xs)).kill [r]).look q=if q=r then some .dead else(σ.look q).map (A6.map (G7 r f xs)):=by
    intro q;rw[A9,St.look_map];simp
   have hlive:∀q,((σ.map (G7 r f xs)).kill [r]).live q→σ.live q:=by
    rintro q ⟨row,h1,h2⟩
    rw[hlk]at h1
    split at h1
    ·obtain rfl:=oI h1;exact absurd rfl h2
    ·obtain⟨row0,h3,rfl⟩:=oM h1
     exact⟨row0,h3,fun e=>h2 (by subst e;rfl)⟩
   obtain⟨k1,k2,k3,k4,k5,k6⟩:=Sim.freeze (hs.freeze1 hr) h
   have hI:∀q,Imm X σ w.heap G q→Imm X ((σ.map (G7 r f xs)).kill [r]) w.heap G q:=fun q hq=>((A5z (X:=X)).imm q hq).1
   refine⟨k1,fun q hq=>k2 q (hI q hq),fun q r' hr' hq hl=>?_,fun r' hr' f' xs' hl=>?_,fun r' row hl=>?_,fun q h=>hlive q (k6 q h)⟩
   ·by_cases e:r'=r
    ·subst e
     refine k2 q ⟨hs.lt q r' hq,?_,fun r2 hr2=>?_⟩
     ·by_cases h:X.w0.heap.size≤q
      ·exact .inr (.inr h)
      ·exact .inr (.inl (hs.ownA q r' hq hl (by omega)))
     ·rw[hq]at hr2;obtain rfl:=oI hr2
      rintro⟨row,h1,h2⟩
      rw[hlk,if_pos rfl]at h1
      exact h2 (oI h1).symm
    ·refine k3 q r' ((List.mem_cons.mp hr').resolve_left e) hq ?_
     obtain⟨row,h1,h2⟩:=hl
     refine⟨row.map (G7 r f xs),by rw[hlk,if_neg e,h1];rfl,?_⟩
     cases row<;>simp[A6.map]at h2⊢
   ·simp only[List.mem_cons,not_or]at hr'
    exact k4 r' hr'.2 f' xs' (by rw[hlk,if_neg hr'.1,hl];rfl)
   ·obtain⟨row',h'⟩:∃row',((σ.map (G7 r f xs)).kill [r]).look r'=some row':=by
     rw[hlk];split
     ·exact⟨_,rfl⟩
     ·rw[hl];exact⟨_,rfl⟩
    exact k5 r' row' h'
  ·rename_i hr
   obtain⟨k1,k2,k3,k4,k5,k6⟩:=Sim.freeze hs h
   refine⟨k1,k2,fun q r' hr' hq hl=>?_,fun r' hr' f' xs' hl=>?_,k5,k6⟩
   ·rcases List.mem_cons.mp hr' with rfl|hr'
    ·obtain⟨row,h1,h2⟩:=hl
     rw[hr]at h1;exact absurd (oI h1).symm h2
    ·exact k3 q r' hr' hq hl
   ·simp only[List.mem_cons,not_or]at hr'
    exact k4 r' hr'.2 f' xs' hl
  ·cases h
end
end Go.Proofs.Ytalmhjlcjcnidaa.Ev

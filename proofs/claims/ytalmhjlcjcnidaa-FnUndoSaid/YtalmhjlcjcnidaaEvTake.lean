/- A slice in an element's cell gets a row of its own, and goes back: the memory stays as it is. -/
import Derived.Test.YtalmhjlcjcnidaaEvPtr
set_option linter.all false
namespace Go.Proofs.Ytalmhjlcjcnidaa.Ev
open Go
section
variable {P:Program} {E:Env} {X:Ctx} {σ σ' τ:St} {a:Act} {w w':World} {G:Gh}
theorem A9h {a:Act}{t:Nat}(ht:t<a.tmps.size):a.put (some t) (a.tmps.getD t undef)=a:=by
 have:a.tmps.setIfInBounds t (a.tmps.getD t undef)=a.tmps:=by
  apply Array.ext_getElem?
  intro i
  rw[Array.getElem?_setIfInBounds]
  split
  ·rename_i e;subst e;simp[ht]
  ·rfl
 cases a
 simp only[Act.put]at this⊢
 rw[this]
theorem Sim.takeT (hs:Sim X σ a w G)(n:Nat)(x:Operand):∃G',Sim X (takeT X.deep n σ x) a w G':=by
 unfold Ev.takeT
 split
 ·rename_i t
  split
  ·rename_i r i c hsl
   cases hd:X.deep<;>simp only[zB,zA]
   ·exact⟨G,hs⟩
   split
   ·rename_i τ hτ
    have ht:t<σ.slots.length:=by
     rcases zE1 t σ.slots.length with h|h
     ·exact h
     ·rw[show σ.slots.getD t A1=A1 by simp[List.getD,List.getElem?_eq_none h]]at hsl;cases hsl
    have h0:=hs.slot t ht
    rw[hsl]at h0
    have hl:A5 X σ w.heap G (.pa r i c) (a.tmps.getD t undef):=by
     rcases h0 with h0|h0
     ·cases h0
     ·exact h0
    obtain⟨G',h1,h2,row,h3⟩:=hs.takePa hd hl hτ
    have h4:=h1.put (d:=some t) (av:= .v (.one (.ow n))) (.inr h2) (by
     intro q hq
     simp only[AV.refs,AV.leaves,TV.leaves,zV,List.flatMap_nil,A0.refs,zH1,zF1]at hq
     subst hq;exact⟨row,h3⟩)
    rw[A9h (by rw[hs.len];exact ht)]at h4
    exact⟨G',h4⟩
   ·exact⟨G,hs⟩
  ·exact⟨G,hs⟩
 ·exact⟨G,hs⟩
theorem Sim.takeArgs (dst:Option Nat)(ms:List Md):∀(xs:List Operand) (i:Nat) {σ:St} {G:Gh},Sim X σ a w G→∃G',Sim X (takeArgs X.deep dst ms i xs σ) a w G'
 |[],i,σ,G,hs=>⟨G,hs⟩
 |x::xs,i,σ,G,hs=>by
  unfold Ev.takeArgs
  split
  ·obtain⟨G',h⟩:=hs.takeT (key dst (50+i)) x
   exact Sim.takeArgs dst ms xs (i+1) h
  ·exact Sim.takeArgs dst ms xs (i+1) hs
theorem Sim.preOp (hs:Sim X σ a w G)(o:Oper):∃G',Sim X (preOp E X.deep o σ) a w G':=by
 unfold Ev.preOp
 split
 ·split
  ·split
   ·exact hs.takeArgs _ _ _ _
   ·exact⟨G,hs⟩
  ·exact⟨G,hs⟩
 ·exact⟨G,hs⟩
theorem Sim.close1 (hs:Sim X σ a w G){n r:Nat}(h:σ.close1 n=some (r,τ)):∃G',Sim X τ a w G':=by
 unfold St.close1 at h
 obtain⟨r',hr',h⟩:=oB h
 split at h
 ·rename_i f xs i c m g ys hr hn
  cases hm:Nat.beq m n<;>simp only[hm,zB,zA]at h
  ·cases h
  have hmn:=zN hm
  subst hmn
  obtain⟨x',hx',h⟩:=oM h
  obtain⟨rfl,rfl⟩:=zQ h
  have hrm:r'≠m:=by rintro rfl;rw[hr]at hn;cases hn
  obtain⟨g1,hi,hc,_,b,cap,arr,et,fr,ow,d1,d2,d3,d4,d5,d6,d7,d8⟩:=hs.row r' _ hr
  have hcell:=d8 g ys (St.dat_of hn)
  have hs0:=hs.dropPa r'
  have hr0:(σ.map (Ev.dropPa r')).look r'=some (.hol f xs i c m):=by rw[St.look_map,hr];rfl
  have hu0:∀q∈[m],∃g zs,(σ.map (Ev.dropPa r')).look q=some (.data g zs):=by
   intro q hq
   simp at hq;subst hq
   exact⟨g,ys,by rw[St.look_map,hn];rfl⟩
  have hES:∀i' q,C0 X σ w.heap G r' b i' ow q→q≠b∧G.rt q=some r'∧ow q=i':=by
   intro i' q hq
   unfold C0 at hq
   rw[if_pos g1]at hq
   exact⟨hq.2.1,hq.1,hq.2.2⟩
  have htr:∀q,G.rt q=some r'→(G.take w w [r',m] [r',m] r' (G.hv r')).rt q=some r':=fun q hq=>by rw[Gh.take_rt (hs.lt q r' hq) hq];simp
  have htk:∀q,G.rt q=some m→(G.take w w [r',m] [r',m] r' (G.hv r')).rt q=some r':=fun q hq=>by rw[Gh.take_rt (hs.lt q m hq) hq];simp
  refine⟨_,hs0.reRow (w':=w) (used:=[m]) (own:=[m]) hu0 hr0 (by simp) (by simpa using hrm) ⟨rfl,by simp⟩ (.inl (M2 r')) rfl rfl rfl rfl (fun _ _=>rfl) ?_ (fun _ _ h=>by cases h)⟩
  have hES2:∀i' q,C0 X σ w.heap G r' b i' ow q→C0 X (((σ.map (Ev.dropPa r')).kill [m]).setRow r' (.data f (xs.set i x'))) w.heap (G.take w w [r',m] [r',m] r' (G.hv r')) r' b i'
    (fun q=>match G.rt q with|some r2=>if r2=m then i else ow q|none=>0) q:=by
   intro i' q hq
   obtain⟨p1,p2,p3⟩:=hES i' q hq
   unfold C0
   rw[if_pos g1]
   refine⟨htr q p2,p1,?_⟩
   simp only[p2,if_neg hrm];exact p3
  refine .inr ⟨b,cap,arr,et,fr,fun q=>match G.rt q with|some r2=>if r2=m then i else ow q|none=>0,by rw[Gh.take_hv,List.length_set];exact d1,by rw[List.length_set];exact d2,
   htr b d3,d4,d5,d6,fun j z hz=>?_⟩
  rw[g1]
  by_cases hji:j=i
  ·subst hji
   rw[List.getElem?_set_self hi]at hz
   obtain rfl:=oI hz
   have hho:=(d7 j _ (R9 (d:=f.zero) hi)).2 rfl
   have e1:seg arr (j*f.size) f.size=(seg arr (j*f.size) f.size).set c (G.hv m):=by
    apply List.ext_getElem?
    intro q
    rw[List.getElem?_set]
    split
    ·rename_i e;subst e
     rw[C5 hc,hcell]
     rw[if_pos]
     have:(j+1)*f.size≤arr.size:=by rw[d5];exact Nat.mul_le_mul_right _ (by omega)
     rw[zD1,Nat.one_mul]at this
     simp[seg];omega
    ·rfl
   rw[e1]
   refine(C6.fill hho (A78 (T:=fun q=>G.rt q=some m) (hs.row m _ hn) (by rw[g1];rfl) fun q hq=>hq) (fun q hq hc=>?_) hx').mono fun q hq=>?_
   ·have:=(hES _ q hc).2.1
    rw[hq]at this;exact hrm (oI this).symm
   ·rcases hq with hq|hq
    ·exact hES2 _ q hq
    ·have hqb:q≠b:=by
      rintro rfl
      rw[d3]at hq;exact hrm (oI hq)
     unfold C0
     rw[if_pos g1]
     refine⟨htk q hq,hqb,?_⟩
     simp[hq]
  ·rw[List.getElem?_set_ne (by omega)]at hz
   exact((d7 j z hz).1 hji).mono (hES2 j)
 ·cases h
theorem Sim.closeUp:∀(k n:Nat) {σ:St} {G:Gh},Sim X σ a w G→∃G',Sim X (closeUp k n σ) a w G'
 |0,_,σ,G,hs=>⟨G,hs⟩
 |k+1,n,σ,G,hs=>by
  unfold Ev.closeUp
  split
  ·rename_i q hq
   obtain⟨G',h⟩:=hs.close1 (r:=q.1) (τ:=q.2) hq
   exact Sim.closeUp k q.1 h
  ·exact⟨G,hs⟩
theorem Sim.postOp (hs:Sim X σ' a w G)(o:Oper)(σ:St):∃G',Sim X (postOp o σ σ') a w G':=by
 unfold Ev.postOp
 split
 ·split
  ·split
   ·exact⟨G,hs⟩
   ·exact hs.closeUp _ _
  ·exact⟨G,hs⟩
 ·exact⟨G,hs⟩
theorem A9p {deep:Bool}{n:Nat}{x:Operand}(h:A4f σ x=true):takeT deep n σ x=σ:=by
 unfold takeT
 split
 ·rename_i t
  split
  ·rename_i r i c hsl
   unfold A4f St.ev1 at h
   simp only[St.ev,hsl]at h
   cases h
  ·rfl
 ·rfl
theorem M9 {deep:Bool}{dst:Option Nat}{ms:List Md}:∀{xs:List Operand} {i:Nat},R4 ms σ i xs=true→takeArgs deep dst ms i xs σ=σ
 |[],_,_=>rfl
 |x::xs,i,h=>by
  simp only[R4,zJ]at h
  unfold takeArgs
  cases hm:B0 ms i
  ·exact M9 h.2
  ·rw[hm]at h
   simp only[A9p (deep:=deep) (n:=key dst (50+i)) h.1]
   exact M9 h.2
  ·exact M9 h.2
  ·exact M9 h.2
theorem A67 {deep:Bool}{o:Oper}(h:A4g E o σ=true):preOp E deep o σ=σ:=by
 unfold A4g at h
 unfold preOp
 cases hop:o.op<;>simp only[hop]at h⊢
 case call c=>
  cases hc:c.callee<;>simp only[hc]at h⊢
  case value x=>
   split at h
   ·exact M9 h
   ·rfl
end
end Go.Proofs.Ytalmhjlcjcnidaa.Ev

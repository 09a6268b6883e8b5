/- From a law's row to the evaluator: the arguments, the answer. -/
import Derived.Test.YtalmhjlcjcnidaaEvOpen
import Derived.Below
set_option linter.all false
namespace Go.Proofs.Ytalmhjlcjcnidaa.Ev
open Go
def A9t (P:Program)(t:TypeId):Bool:=match P.underlying t with
 |some (.struct _)=>true
 |_=>false
def B0a (agg:Bool)(f:Kd)(x:f.T):TV:=bif agg then .agg (E2 f x)else match E2 f x with
 |[l]=> .one l
 |_=> .one .undef
section
variable {H:Type} {enc:TypeId×Value→H} {P:Program} {B:Kd→Nat} {w w':World} {base:Nat} {spare:Nat→Bool} {held:Bool}
theorem B03 {S:Nat→Prop}{ow:Nat→Option Nat}{h:Array Obj}{nm:Nat→Nat}:∀{f:Kd} {x:f.T} {vs:List Value} {S':Nat→Prop} {j:Nat},(∀q,S' q→S q)→A2 false h f x vs S'→F0 (fun j=>LA S ow h (nm j)) j (E2 f x) vs
 | .int k,n,vs,_,j,_,hc=>by simp only[A2]at hc;subst hc;exact .cons rfl .nil
 | .bool,n,vs,_,j,_,hc=>by simp only[A2]at hc;subst hc;exact .cons rfl .nil
 | .str,n,vs,_,j,_,hc=>by simp only[A2]at hc;subst hc;exact .cons rfl .nil
 | .sl f,xs,vs,_,j,hS,hc=>by
  have hl:=hc.len
  match vs,hl with
  |[v],_=>exact .cons (A2.mono hS hc) .nil
 | .pair a b,p,vs,_,j,hS,hc=>by
  simp only[A2]at hc
  obtain⟨v1,v2,side,rfl,h1,h2⟩:=hc
  exact(B03 (fun q hq=>hS q hq.1) h1).append (B03 (fun q hq=>hS q hq.1) h2)
theorem A88 {n:Nat}{t:TypeId}{f:Kd}{v:Value}(hk:A3a P B n t=some f){r:Reach}(hv:Value.okWide P w r base t v):(A9t P t=true∧∃vs,v= .agg vs)∨(A9t P t=false∧v.cells.toList=[v]∧∀x:f.T,(E2 f x).length=1):=by
 cases n with
 |zero=>simp[A3a]at hk
 |succ n=>
  simp only[A3a]at hk
  unfold Value.okWide at hv
  unfold A9t
  split at hk
  ·rename_i k hu
   obtain rfl:=oI hk
   simp only[hu]at hv⊢
   refine .inr ⟨trivial,?_,fun x=>rfl⟩
   cases v<;>simp_all[Cell.okWide,Cell.ok,Value.cells]
  ·rename_i hu
   obtain rfl:=oI hk
   simp only[hu]at hv⊢
   refine .inr ⟨trivial,?_,fun x=>rfl⟩
   cases v<;>simp_all[Cell.okWide,Cell.ok,Value.cells]
  ·rename_i hu
   obtain rfl:=oI hk
   simp only[hu]at hv⊢
   refine .inr ⟨trivial,?_,fun x=>rfl⟩
   cases v<;>simp_all[Cell.okWide,Cell.ok,Value.cells]
  ·rename_i e hu
   obtain⟨g,hg,h⟩:=oB hk
   cases hb:Nat.beq (P.cellsOf e) g.size&&Nat.beq (P.bytesOf e) (B g)<;>simp only[hb,zB,zA]at h
   ·cases h
   obtain rfl:=oI h
   simp only[hu]at hv⊢
   refine .inr ⟨trivial,?_,fun x=>rfl⟩
   cases v<;>simp_all[Cell.okWide,Cell.ok,Value.cells]
  ·rename_i fs hu
   simp only[hu]at hv⊢
   obtain⟨cs,h,_⟩:=hv
   exact .inl ⟨trivial,cs,h⟩
  ·cases hk
theorem B13 {n:Nat}{t:TypeId}{f:Kd}{v:Value}{d:DataW H}{ps:List MemPlace}(hk:A3a P B n t=some f)(h:DataW.Trod enc P w base spare held t v d ps)(hw:∀k∈d.weights P t,k≤reachBytes)
  {r:Reach} {base2:Nat} (hv:Value.okWide P w r base2 t v):∃x:f.T,Wf B f x∧∀{i:Nat} {as:List TV} {vs:List Value},H5 (fun q=>q<w.heap.size) (fun _=>none) w.heap [] (i+1) as vs→
   H5 (fun q=>q<w.heap.size) (fun _=>none) w.heap [] i (B0a (A9t P t) f x::as) (v::vs):=by
 obtain⟨fuel,hf⟩:=h
 obtain⟨x,h1,h2⟩:=A0q hk hf hw
 refine⟨x,h2,fun{i as vs} htl=>⟨v.cells.toList,v,vs,rfl,?_⟩⟩
 rcases A88 hk hv with⟨ha,us,rfl⟩|⟨ha,hc,hlen⟩
 ·rw[ha]
  refine⟨B03 (fun q hq=>hq) h1,⟨by simp[Value.cells],?_⟩,htl⟩
  rw[h1.len,P0]
 ·rw[ha]
  have hl:=hlen x
  have hla:=B03 (S:=fun q=>q<w.heap.size) (ow:=fun _=>none) (nm:=fun j=>key (some i) j) (j:=0) (fun q hq=>hq) h1
  unfold B0a
  rw[zA]
  match hsl:E2 f x,hl with
  |[l],_=>
   rw[hsl]at hla
   exact⟨hla,hc,htl⟩
theorem B17 {g:Nat}{as:List TV}{b:Bool}{args:Array Value}(h:N0 P [] false g as (.v (.one (.bool b))))(ha:H5 (fun q=>q<w.heap.size) (fun _=>none) w.heap [] 0 as args.toList):
  Calls P g args w fun e w'=>e= .returned (.bool b)∧RowKit.Below w.heap.size w w':=by
 have:=h.2 w args.toList (fun q=>q<w.heap.size) (fun _=>none) (fun q hq=>⟨hq,rfl⟩) (fun q j h=>by cases h) ha
 rw[Array.toArray_toList]at this
 refine this.mono fun e w' hp=>?_
 cases e with
 |returned v=>
  rw[show C8 [] 0 as args.toList=[]from W7 as args.toList 0 (Nat.le_refl _)]at hp
  obtain⟨h1,h2,h3,h4,h5,ow1,us,vo,_,_,h6,h7,h8⟩:=hp
  obtain rfl:vo=v:=by
   rcases h8 with⟨_,h⟩|⟨h,_⟩
   ·exact h
   ·exact absurd rfl h
  simp only[A0v,F2]at h7
  subst h7
  simp only[AV.leaves,TV.leaves]at h6
  cases h6 with
  |cons h6 _=>
   simp only[LA]at h6
   exact⟨by rw[h6],h1,h2,h3,h4,fun k hk=>h5 k hk rfl⟩
 |panicked c=>exact hp.elim
 |outgrown=>exact hp.elim
end
end Go.Proofs.Ytalmhjlcjcnidaa.Ev

/- How the evaluator's values and rows stand in the model's memory: the relations and their plain laws. -/
import Derived.Test.YtalmhjlcjcnidaaEvCore
set_option linter.all false
namespace Go.Proofs.Ytalmhjlcjcnidaa.Ev
open Go

def seg (arr:Array Value)(o n:Nat):List Value:=(arr.toList.drop o).take n
def NF (fr:Nat×Nat)(n:Nat):Prop:=∀o,o<n→¬(fr.1≤o∧o<fr.2)
def NK (f:Kd)(fr:Nat×Nat)(n:Nat):Prop:=NF fr n∧(f= .int .u8∨fr=(0,0))
theorem NK.new {f:Kd}{n:Nat}:NK f (0,0) n:=⟨fun _ _ h=>by simp at h,.inr rfl⟩

inductive A7 {α β:Type} (R:α→β→Prop):List α→List β→Prop
 |nil:A7 R [] []
 |cons {a:α} {b:β} {l:List α} {m:List β}:R a b→A7 R l m→A7 R (a::l) (b::m)

def A2 (o:Bool)(h:Array Obj):(f:Kd)→f.T→List Value→(Nat→Prop)→Prop
 | .int k,n,vs,_=>vs=[.int k n]
 | .bool,b,vs,_=>vs=[.bool b]
 | .str,s,vs,_=>vs=[.string s]
 | .pair a b,p,vs,S=>∃(v1 v2:List Value) (side:Nat→Bool),vs=v1++v2∧A2 o h a p.1 v1 (fun q=>S q∧(o=true→side q=true))∧
   A2 o h b p.2 v2 (fun q=>S q∧(o=true→side q=false))
 | .sl f,xs,vs,S=>(xs=[]∧∃a c,vs=[.slice a 0 c]∧(o=true→a=none∧c=0))∨
   ∃(b off cap:Nat) (arr:Array Value) (e:TypeId) (fr:Nat×Nat) (ow:Nat→Nat),vs=[.slice (some ⟨b,off,none⟩) xs.length cap]∧xs.length≤cap∧S b∧
    h[b]?=some (.cells arr e fr)∧(o=true→off=0∧arr.size=cap*f.size∧NK f fr arr.size)∧
    ∀(i:Nat) (x:f.T),xs[i]?=some x→A2 o h f x (seg arr (off+i*f.size) f.size) (fun q=>S q∧(o=true→q≠b∧ow q=i))

theorem Kd.size_pos:∀f:Kd,0<f.size
 | .int _| .bool| .str| .sl _=>by simp[Kd.size]
 | .pair a b=>by have:=a.size_pos;simp only[Kd.size];omega

theorem A2.len {o:Bool}{h:Array Obj}:∀{f:Kd} {x:f.T} {vs:List Value} {S:Nat→Prop},A2 o h f x vs S→vs.length=f.size
 | .int _,_,_,_,hc=>by simp only[A2]at hc;subst hc;rfl
 | .bool,_,_,_,hc=>by simp only[A2]at hc;subst hc;rfl
 | .str,_,_,_,hc=>by simp only[A2]at hc;subst hc;rfl
 | .pair a b,p,vs,S,hc=>by
  simp only[A2]at hc
  obtain⟨v1,v2,side,rfl,h1,h2⟩:=hc
  simp only[List.length_append,Kd.size,A2.len h1,A2.len h2]
 | .sl f,xs,vs,S,hc=>by
  simp only[A2]at hc
  rcases hc with⟨_,a,c,rfl,_⟩|⟨b,off,cap,arr,e,fr,ow,rfl,_⟩<;>rfl

theorem A2.mono {o:Bool}{h:Array Obj}:∀{f:Kd} {x:f.T} {vs:List Value} {S S':Nat→Prop},(∀q,S q→S' q)→A2 o h f x vs S→A2 o h f x vs S'
 | .int _,_,_,_,_,_,hc=>hc
 | .bool,_,_,_,_,_,hc=>hc
 | .str,_,_,_,_,_,hc=>hc
 | .pair a b,p,vs,S,S',hS,hc=>by
  simp only[A2]at hc⊢
  obtain⟨v1,v2,side,e,h1,h2⟩:=hc
  exact⟨v1,v2,side,e,A2.mono (fun q hq=>⟨hS q hq.1,hq.2⟩) h1,A2.mono (fun q hq=>⟨hS q hq.1,hq.2⟩) h2⟩
 | .sl f,xs,vs,S,S',hS,hc=>by
  simp only[A2]at hc⊢
  rcases hc with hc|⟨b,off,cap,arr,e,fr,ow,e1,e2,e3,e4,e5,e6⟩
  ·exact .inl hc
  ·exact .inr ⟨b,off,cap,arr,e,fr,ow,e1,e2,hS _ e3,e4,e5,fun i x hx=>A2.mono (fun q hq=>⟨hS q hq.1,hq.2⟩) (e6 i x hx)⟩

theorem A2.congr {o:Bool}{h h':Array Obj}:∀{f:Kd} {x:f.T} {vs:List Value} {S:Nat→Prop},(∀q,S q→h'[q]?=h[q]?)→A2 o h f x vs S→A2 o h' f x vs S
 | .int _,_,_,_,_,hc=>hc
 | .bool,_,_,_,_,hc=>hc
 | .str,_,_,_,_,hc=>hc
 | .pair a b,p,vs,S,hS,hc=>by
  simp only[A2]at hc⊢
  obtain⟨v1,v2,side,e,h1,h2⟩:=hc
  exact⟨v1,v2,side,e,A2.congr (fun q hq=>hS q hq.1) h1,A2.congr (fun q hq=>hS q hq.1) h2⟩
 | .sl f,xs,vs,S,hS,hc=>by
  simp only[A2]at hc⊢
  rcases hc with hc|⟨b,off,cap,arr,e,fr,ow,e1,e2,e3,e4,e5,e6⟩
  ·exact .inl hc
  ·exact .inr ⟨b,off,cap,arr,e,fr,ow,e1,e2,e3,by rw[hS _ e3];exact e4,e5,fun i x hx=>A2.congr (fun q hq=>hS q hq.1) (e6 i x hx)⟩

theorem A2.rd {h:Array Obj}:∀{f:Kd} {x:f.T} {vs:List Value} {S:Nat→Prop},A2 true h f x vs S→A2 false h f x vs S
 | .int _,_,_,_,hc=>hc
 | .bool,_,_,_,hc=>hc
 | .str,_,_,_,hc=>hc
 | .pair a b,p,vs,S,hc=>by
  simp only[A2]at hc⊢
  obtain⟨v1,v2,side,e,h1,h2⟩:=hc
  exact⟨v1,v2,side,e,(A2.rd h1).mono fun q hq=>⟨hq.1,by simp⟩,(A2.rd h2).mono fun q hq=>⟨hq.1,by simp⟩⟩
 | .sl f,xs,vs,S,hc=>by
  simp only[A2]at hc⊢
  rcases hc with⟨e,a,c,e1,_⟩|⟨b,off,cap,arr,e,fr,ow,e1,e2,e3,e4,e5,e6⟩
  ·exact .inl ⟨e,a,c,e1,by simp⟩
  ·exact .inr ⟨b,off,cap,arr,e,fr,ow,e1,e2,e3,e4,by simp,fun i x hx=>(A2.rd (e6 i x hx)).mono fun q hq=>⟨hq.1,by simp⟩⟩
theorem A2.toRd {o:Bool}{h:Array Obj}{f:Kd}{x:f.T}{vs:List Value}{S:Nat→Prop}(hc:A2 o h f x vs S):A2 false h f x vs S:=by
 cases o
 ·exact hc
 ·exact hc.rd

def C6 (h:Array Obj):(f:Kd)→f.T→Nat→List Value→(Nat→Prop)→Prop
 | .sl _,_,0,vs,_=>vs.length=1
 | .pair a b,p,c,vs,S=>∃(v1 v2:List Value) (side:Nat→Bool),vs=v1++v2∧v1.length=a.size∧
   if c<a.size then C6 h a p.1 c v1 (fun q=>S q∧side q=true)∧A2 true h b p.2 v2 (fun q=>S q∧(true=true→side q=false))
   else A2 true h a p.1 v1 (fun q=>S q∧(true=true→side q=true))∧C6 h b p.2 (c - a.size) v2 (fun q=>S q∧side q=false)
 |_,_,_,_,_=>False
theorem C6.congr {h h':Array Obj}:∀{f:Kd} {x:f.T} {c:Nat} {vs:List Value} {S:Nat→Prop},(∀q,S q→h'[q]?=h[q]?)→C6 h f x c vs S→C6 h' f x c vs S
 | .int _,_,_,_,_,_,hc=>by simp[C6]at hc
 | .bool,_,_,_,_,_,hc=>by simp[C6]at hc
 | .str,_,_,_,_,_,hc=>by simp[C6]at hc
 | .sl f,xs,0,vs,S,hS,hc=>hc
 | .sl f,xs,_+1,vs,S,hS,hc=>by simp[C6]at hc
 | .pair a b,p,c,vs,S,hS,hc=>by
  simp only[C6]at hc⊢
  obtain⟨v1,v2,side,e,hl,hc⟩:=hc
  refine⟨v1,v2,side,e,hl,?_⟩
  split at hc
  ·rename_i hlt;rw[if_pos hlt]
   exact⟨C6.congr (fun q hq=>hS q hq.1) hc.1,A2.congr (fun q hq=>hS q hq.1) hc.2⟩
  ·rename_i hlt;rw[if_neg hlt]
   exact⟨A2.congr (fun q hq=>hS q hq.1) hc.1,C6.congr (fun q hq=>hS q hq.1) hc.2⟩
theorem C6.mono {h:Array Obj}:∀{f:Kd} {x:f.T} {c:Nat} {vs:List Value} {S S':Nat→Prop},(∀q,S q→S' q)→C6 h f x c vs S→C6 h f x c vs S'
 | .int _,_,_,_,_,_,_,hc=>by simp[C6]at hc
 | .bool,_,_,_,_,_,_,hc=>by simp[C6]at hc
 | .str,_,_,_,_,_,_,hc=>by simp[C6]at hc
 | .sl f,xs,0,vs,S,S',hS,hc=>hc
 | .sl f,xs,_+1,vs,S,S',hS,hc=>by simp[C6]at hc
 | .pair a b,p,c,vs,S,S',hS,hc=>by
  simp only[C6]at hc⊢
  obtain⟨v1,v2,side,e,hl,hc⟩:=hc
  refine⟨v1,v2,side,e,hl,?_⟩
  split at hc
  ·rename_i hlt;rw[if_pos hlt]
   exact⟨C6.mono (fun q hq=>⟨hS q hq.1,hq.2⟩) hc.1,A2.mono (fun q hq=>⟨hS q hq.1,hq.2⟩) hc.2⟩
  ·rename_i hlt;rw[if_neg hlt]
   exact⟨A2.mono (fun q hq=>⟨hS q hq.1,hq.2⟩) hc.1,C6.mono (fun q hq=>⟨hS q hq.1,hq.2⟩) hc.2⟩
theorem A2.toHole {h:Array Obj}:∀{f:Kd} {x:f.T} {c:Nat} {vs:List Value} {S:Nat→Prop} {g:Kd} {ys:List g.T},A2 true h f x vs S→E3 f x c=some ⟨g,ys⟩→
  ∃(S':Nat→Prop) (u:Value),vs[c]?=some u∧(∀q,S' q→S q)∧A2 true h (.sl g) ys [u] S'∧C6 h f x c vs (fun q=>S q∧¬S' q)
 | .int _,_,c,_,_,_,_,_,h2=>by cases c<;>simp[E3]at h2
 | .bool,_,c,_,_,_,_,_,h2=>by cases c<;>simp[E3]at h2
 | .str,_,c,_,_,_,_,_,h2=>by cases c<;>simp[E3]at h2
 | .sl f,xs,c+1,vs,S,g,ys,hc,h2=>by simp[E3]at h2
 | .sl f,xs,0,vs,S,g,ys,hc,h2=>by
  simp only[E3]at h2
  obtain⟨rfl,e⟩:=Sigma.mk.inj (oI h2)
  obtain rfl:=eq_of_heq e
  have hl:=hc.len
  match vs,hl with
  |[u],_=>exact⟨S,u,rfl,fun q h=>h,hc,rfl⟩
 | .pair a b,p,c,vs,S,g,ys,hc,h2=>by
  simp only[A2]at hc
  obtain⟨v1,v2,side,rfl,h3,h4⟩:=hc
  have hl:=h3.len
  simp only[E3]at h2
  cases hb:Nat.blt c a.size<;>simp only[hb,zB,zA]at h2
  ·have hge:¬c<a.size:=fun h=>by rw[Nat.blt_eq.mpr h]at hb;cases hb
   obtain⟨S',u,k1,k2,k3,k4⟩:=A2.toHole h4 h2
   refine⟨S',u,?_,fun q hq=>(k2 q hq).1,k3,?_⟩
   ·rw[List.getElem?_append_right (by omega),hl];exact k1
   ·simp only[C6]
    refine⟨v1,v2,side,rfl,hl,?_⟩
    rw[if_neg hge]
    refine⟨h3.mono fun q hq=>⟨⟨hq.1,fun hc=>?_⟩,hq.2⟩,k4.mono fun q hq=>⟨⟨hq.1.1,hq.2⟩,hq.1.2 trivial⟩⟩
    have:=(k2 q hc).2 trivial
    rw[hq.2 trivial]at this;cases this
  ·have hlt:c<a.size:=Nat.blt_eq.mp hb
   obtain⟨S',u,k1,k2,k3,k4⟩:=A2.toHole h3 h2
   refine⟨S',u,?_,fun q hq=>(k2 q hq).1,k3,?_⟩
   ·rw[List.getElem?_append_left (by omega)];exact k1
   ·simp only[C6]
    refine⟨v1,v2,side,rfl,hl,?_⟩
    rw[if_pos hlt]
    refine⟨k4.mono fun q hq=>⟨⟨hq.1.1,hq.2⟩,hq.1.2 trivial⟩,h4.mono fun q hq=>⟨⟨hq.1,fun hc=>?_⟩,hq.2⟩⟩
    have:=(k2 q hc).2 trivial
    rw[hq.2 trivial]at this;cases this
theorem C6.fill {h:Array Obj}:∀{f:Kd} {x x':f.T} {c:Nat} {vs:List Value} {S S':Nat→Prop} {g:Kd} {ys:List g.T} {u:Value},C6 h f x c vs S→A2 true h (.sl g) ys [u] S'→(∀q,S' q→¬S q)→
  M5 f x c g ys=some x'→A2 true h f x' (vs.set c u) (fun q=>S q∨S' q)
 | .int _,_,_,_,_,_,_,_,_,_,hc,_,_,_=>by simp[C6]at hc
 | .bool,_,_,_,_,_,_,_,_,_,hc,_,_,_=>by simp[C6]at hc
 | .str,_,_,_,_,_,_,_,_,_,hc,_,_,_=>by simp[C6]at hc
 | .sl f,xs,x',c+1,vs,S,S',g,ys,u,hc,h2,h3,h4=>by simp[C6]at hc
 | .sl f,xs,x',0,vs,S,S',g,ys,u,hc,h2,h3,h4=>by
  simp only[C6]at hc
  simp only[M5]at h4
  split at h4
  ·rename_i e;subst e
   obtain rfl:=oI h4
   match vs,hc with
   |[w],_=>exact h2.mono fun q hq=> .inr hq
  ·cases h4
 | .pair a b,p,x',c,vs,S,S',g,ys,u,hc,h2,h3,h4=>by
  classical
  simp only[C6]at hc
  obtain⟨v1,v2,side,rfl,hl,hc⟩:=hc
  simp only[M5]at h4
  split at hc
  ·rename_i hlt
   rw[Nat.blt_eq.mpr hlt]at h4
   simp only[zB]at h4
   obtain⟨y,hy,rfl⟩:=oM h4
   have hf:=C6.fill hc.1 h2 (fun q hq hc=>h3 q hq hc.1) hy
   simp only[A2]
   refine⟨v1.set c u,v2,fun q=>if S' q then true else side q,by rw[List.set_append_left _ _ (by omega)],hf.mono fun q hq=>?_,hc.2.mono fun q hq=>?_⟩
   ·rcases hq with hq|hq
    ·refine⟨.inl hq.1,fun _=>?_⟩
     by_cases hc:S' q
     ·exact if_pos hc
     ·exact(if_neg hc).trans hq.2
    ·exact⟨.inr hq,fun _=>if_pos hq⟩
   ·refine⟨.inl hq.1,fun _=>?_⟩
    exact(if_neg fun hc=>h3 q hc hq.1).trans (hq.2 trivial)
  ·rename_i hge
   have hb:Nat.blt c a.size=false:=by
    cases hb:Nat.blt c a.size
    ·rfl
    ·exact absurd (Nat.blt_eq.mp hb) hge
   rw[hb]at h4
   simp only[zA]at h4
   obtain⟨y,hy,rfl⟩:=oM h4
   have hf:=C6.fill hc.2 h2 (fun q hq hc=>h3 q hq hc.1) hy
   simp only[A2]
   refine⟨v1,v2.set (c - a.size) u,fun q=>if S' q then false else side q,by rw[List.set_append_right _ _ (by omega),hl],hc.1.mono fun q hq=>?_,hf.mono fun q hq=>?_⟩
   ·refine⟨.inl hq.1,fun _=>?_⟩
    exact(if_neg fun hc=>h3 q hc hq.1).trans (hq.2 trivial)
   ·rcases hq with hq|hq
    ·refine⟨.inl hq.1,fun _=>?_⟩
     by_cases hc:S' q
     ·exact if_pos hc
     ·exact(if_neg hc).trans hq.2
    ·exact⟨.inr hq,fun _=>if_pos hq⟩
structure Gh where
 rt:Nat→Option Nat
 hv:Nat→Value

def A6.arr:A6→Option (Sigma fun f:Kd=>List f.T)
 | .data f xs=>some ⟨f,xs⟩
 | .hol f xs _ _ _=>some ⟨f,xs⟩
 |_=>none
def St.dat (σ:St)(r:Nat)(f:Kd)(xs:List f.T):Prop:=∃row,σ.look r=some row∧row.arr=some ⟨f,xs⟩
theorem St.dat_of {σ:St}{r:Nat}{f:Kd}{xs:List f.T}(h:σ.look r=some (.data f xs)):σ.dat r f xs:=⟨_,h,rfl⟩
theorem St.dat_hol {σ:St}{r i c n:Nat}{f:Kd}{xs:List f.T}(h:σ.look r=some (.hol f xs i c n)):σ.dat r f xs:=⟨_,h,rfl⟩
theorem St.dat_case {σ:St}{r:Nat}{f:Kd}{xs:List f.T}(h:σ.dat r f xs):σ.look r=some (.data f xs)∨∃i c n,σ.look r=some (.hol f xs i c n):=by
 obtain⟨row,h1,h2⟩:=h
 cases row with
 |dead=>cases h2
 |box=>cases h2
 |data g ys=>simp only[A6.arr,zO]at h2;cases h2;exact .inl h1
 |hol g ys i c n=>simp only[A6.arr,zO]at h2;cases h2;exact .inr ⟨i,c,n,h1⟩
theorem St.dat_data {σ:St}{r:Nat}{f g:Kd}{xs:List f.T}{ys:List g.T}(h:σ.look r=some (.data f xs))(h':σ.dat r g ys):f=g∧HEq xs ys:=by
 obtain⟨row,h1,h2⟩:=h'
 rw[h]at h1;obtain rfl:=oI h1
 simp only[A6.arr,zO]at h2
 cases h2;exact⟨rfl,HEq.rfl⟩
theorem St.dat_holE {σ:St}{r i c n:Nat}{f g:Kd}{xs:List f.T}{ys:List g.T}(h:σ.look r=some (.hol f xs i c n))(h':σ.dat r g ys):f=g∧HEq xs ys:=by
 obtain⟨row,h1,h2⟩:=h'
 rw[h]at h1;obtain rfl:=oI h1
 simp only[A6.arr,zO]at h2
 cases h2;exact⟨rfl,HEq.rfl⟩
theorem St.dat_box {σ:St}{r:Nat}{f g:Kd}{ls:List A0}{ys:List g.T}(h:σ.look r=some (.box f ls))(h':σ.dat r g ys):False:=by
 obtain⟨row,h1,h2⟩:=h'
 rw[h]at h1;obtain rfl:=oI h1
 cases h2
theorem St.dat_look {σ:St}{r:Nat}{row:A6}{g:Kd}{ys:List g.T}(h:σ.look r=some row)(h':σ.dat r g ys):row.arr=some ⟨g,ys⟩:=by
 obtain⟨row',h1,h2⟩:=h'
 rw[h]at h1;obtain rfl:=oI h1
 exact h2
def St.live (σ:St)(r:Nat):Prop:=∃row,σ.look r=some row∧row≠ .dead
structure Ctx where
 deep:Bool
 w0:World
 Sh:Nat→Prop
 A:Nat→Prop
 pv:List Value
def Imm (X:Ctx)(σ:St)(h:Array Obj)(G:Gh)(q:Nat):Prop:=
 q<h.size∧(X.Sh q∨X.A q∨X.w0.heap.size≤q)∧∀r,G.rt q=some r→¬σ.live r

section
variable (X:Ctx) (σ:St) (h:Array Obj) (G:Gh)
def K1 (f:Kd)(x:f.T)(c:Nat)(v:Value):Prop:=
 ∃(b o:Nat) (arr:Array Value) (e:TypeId) (fr:Nat×Nat),v= .pointer (some ⟨b,o+c,none⟩)∧h[b]?=some (.cells arr e fr)∧Imm X σ h G b∧
  A2 false h f x (seg arr o f.size) (Imm X σ h G)
def S4:Cap→Value→Prop
 | .own r,v=>v.oneCell'=true∧∀f ls,σ.look r=some (.box f ls)→v=G.hv r
 | .sh f x,v=>K1 X σ h G f x 0 v
def B08 (hv:Value)(len:Nat)(v:Value):Prop:=(len=0∧hv= .slice none 0 0∧v= .slice none 0 0)∨∃b n cap,hv= .slice (some ⟨b,0,none⟩) n cap∧v= .slice (some ⟨b,0,none⟩) len cap
def A5:A0→Value→Prop
 | .undef,v=>v.oneCell'=true
 | .nil,v=>v= .slice none 0 0
 | .int k n,v=>v= .int k n
 | .bool b,v=>v= .bool b
 | .str s,v=>v= .string s
 | .sh f xs,v=>A2 false h (.sl f) xs [v] (Imm X σ h G)
 | .od _ _,_=>False
 | .ow r,v=>v.oneCell'=true∧∀f xs,σ.dat r f xs→v=G.hv r
 | .sub r off len,v=>v.oneCell'=true∧∀f xs,σ.dat r f xs→off+len≤xs.length∧
   (((len=0∧∃a c,v= .slice a 0 c)∨
   ∃b n cap c',G.hv r= .slice (some ⟨b,0,none⟩) n cap∧v= .slice (some ⟨b,off*f.size,none⟩) len c'∧len≤c')∧(off=0→B08 (G.hv r) len v))
 | .pa r i c,v=>v.oneCell'=true∧∀f xs,σ.dat r f xs→i<xs.length∧c<f.size∧
   ∃b n cap arr e fr,G.hv r= .slice (some ⟨b,0,none⟩) n cap∧h[b]?=some (.cells arr e fr)∧arr[i*f.size+c]?=some v
 | .ptr r i c,v=>v.oneCell'=true∧
   (∀f xs,σ.dat r f xs→i<xs.length∧∃b n cap,G.hv r= .slice (some ⟨b,0,none⟩) n cap∧v= .pointer (some ⟨b,i*f.size+c,none⟩))∧
   (∀f ls,σ.look r=some (.box f ls)→∃b,G.hv r= .pointer (some ⟨b,0,none⟩)∧v= .pointer (some ⟨b,c,none⟩))
 | .spt f x c,v=>K1 X σ h G f x c v
 | .clo g caps,v=>∃vs:List Value,v= .func (.func g) #[] vs.toArray∧A7 (S4 X σ h G) caps vs
def L1:TV→Value→Prop
 | .one l,v=>l= .undef∨A5 X σ h G l v
 | .agg ls,v=>∃vs:List Value,v= .agg vs.toArray∧A7 (A5 X σ h G) ls vs
def S8:AV→Value→Prop
 | .v x,v=>L1 X σ h G x v
 | .tup xs,v=>∃vs:List Value,v= .tuple vs.toArray∧A7 (L1 X σ h G) xs vs
def C0 (r b i:Nat)(ow:Nat→Nat)(q:Nat):Prop:=
 if X.deep=true then G.rt q=some r∧q≠b∧ow q=i else Imm X σ h G q
def E7 (r:Nat):A6→Prop
 | .dead=>True
 | .data f xs=>(xs=[]∧G.hv r= .slice none 0 0)∨
   ∃(b cap:Nat) (arr:Array Value) (e:TypeId) (fr:Nat×Nat) (ow:Nat→Nat),G.hv r= .slice (some ⟨b,0,none⟩) xs.length cap∧xs.length≤cap∧G.rt b=some r∧
    h[b]?=some (.cells arr e fr)∧arr.size=cap*f.size∧NK f fr arr.size∧
    ∀(i:Nat) (x:f.T),xs[i]?=some x→A2 X.deep h f x (seg arr (i*f.size) f.size) (C0 X σ h G r b i ow)
 | .hol f xs i c n=>X.deep=true∧i<xs.length∧c<f.size∧(∃row,σ.look n=some row)∧
   ∃(b cap:Nat) (arr:Array Value) (e:TypeId) (fr:Nat×Nat) (ow:Nat→Nat),G.hv r= .slice (some ⟨b,0,none⟩) xs.length cap∧xs.length≤cap∧G.rt b=some r∧
    h[b]?=some (.cells arr e fr)∧arr.size=cap*f.size∧NK f fr arr.size∧
    (∀(j:Nat) (x:f.T),xs[j]?=some x→(j≠i→A2 true h f x (seg arr (j*f.size) f.size) (C0 X σ h G r b j ow))∧(j=i→C6 h f x c (seg arr (j*f.size) f.size) (C0 X σ h G r b j ow)))∧
    ∀g ys,σ.dat n g ys→arr[i*f.size+c]?=some (G.hv n)
 | .box f ls=>∃(b:Nat) (arr:Array Value) (e:TypeId) (fr:Nat×Nat),G.hv r= .pointer (some ⟨b,0,none⟩)∧G.rt b=some r∧
   h[b]?=some (.cells arr e fr)∧NF fr arr.size∧ls.length=f.size∧A7 (A5 X σ h G) ls arr.toList
end
structure Sim (X:Ctx) (σ:St) (a:Act) (w:World) (G:Gh):Prop where
 defs:a.defers=[]
 len:a.tmps.size=σ.slots.length
 slot:∀i,i<σ.slots.length→S8 X σ w.heap G (σ.slots.getD i A1) (a.tmps.getD i undef)
 row:∀r row,σ.look r=some row→E7 X σ w.heap G r row
 pin:A7 (A5 X σ w.heap G) σ.pins X.pv
 lt:∀q r,G.rt q=some r→q<w.heap.size
 ownA:∀q r,G.rt q=some r→σ.live r→q<X.w0.heap.size→X.A q
 size:X.w0.heap.size≤w.heap.size
 frame:∀q,q<X.w0.heap.size→¬X.A q→w.heap[q]?=X.w0.heap[q]?
 os:w.os=X.w0.os
 tape:w.tape=X.w0.tape
 output:w.output=X.w0.output
 refs:∀i,i<σ.slots.length→∀r∈(σ.slots.getD i A1).refs,∃row,σ.look r=some row
 prefs:∀l∈σ.pins,∀r∈l.refs,∃row,σ.look r=some row
 rrefs:∀r f ls,σ.look r=some (.box f ls)→∀q∈ls.flatMap A0.refs,∃row,σ.look q=some row
end Go.Proofs.Ytalmhjlcjcnidaa.Ev

/- Calls: the caller's arguments. -/
import Derived.Test.YtalmhjlcjcnidaaEvCall
set_option linter.all false
namespace Go.Proofs.Ytalmhjlcjcnidaa.Ev
open Go
section
variable {P:Program} {E:Env} {X:Ctx} {σ σ':St} {a:Act} {w w':World} {G:Gh}
theorem Sim.pa2 (hs:Sim X σ a w G){r i c:Nat}{f:Kd}{xs:List f.T}{g:Kd}{ys:List g.T}{v:Value}(hl:A5 X σ w.heap G (.pa r i c) v)(hr:σ.look r=some (.data f xs))
  (hc:E3 f (xs.getD i f.zero) c=some ⟨g,ys⟩):∃S,A2 X.deep w.heap (.sl g) ys [v] S∧(∀q,S q→G.rt q=some r∨Imm X σ w.heap G q):=by
 obtain⟨hi,hcs,b,n,cap,arr,e,fr,e1,e2,e3⟩:=hl.2 f xs (St.dat_of hr)
 rcases hs.row r _ hr with⟨_,e'⟩|⟨b',cap',arr',e',fr',ow,d1,d2,d3,d4,d5,d6,d7⟩
 ·rw[e1]at e';simp at e'
 ·rw[e1]at d1;simp at d1;obtain⟨rfl,_⟩:=d1
  rw[e2]at d4;obtain⟨rfl,rfl,rfl⟩:arr=arr'∧e=e'∧fr=fr':=by simpa using d4
  have hx:xs[i]?=some xs[i]:=List.getElem?_eq_getElem hi
  have hg:xs.getD i f.zero=xs[i]:=by simp[List.getD,hx]
  rw[hg]at hc
  obtain⟨u,hu,S',hS,hr'⟩:=(d7 i _ hx).cell hc
  rw[C5 hcs,e3]at hu
  obtain rfl:=oI hu
  refine⟨S',hr',fun q hq=>?_⟩
  have:=hS q hq
  unfold C0 at this
  split at this
  ·exact .inl this.1
  ·exact .inr this
theorem A3y.mono {S S':Nat→Prop}{h:Array Obj}{f:Kd}{x:f.T}{c:Nat}{v:Value}(hS:∀q,S q→S' q)(hl:A3y S h f x c v):A3y S' h f x c v:=by
 obtain⟨b,o,arr,e,fr,h1,h2,h3,h4⟩:=hl
 exact⟨b,o,arr,e,fr,h1,h2,hS _ h3,h4.mono hS⟩
theorem A00 {r q:Nat}(h:q=r):q∈σ.below r:=by
 subst h;unfold St.below;split<;>simp
theorem B0z (hs:Sim X σ a w G){S:Nat→Prop}{ow:Nat→Option Nat}{j:Nat}{l m:A0}{v:Value}(h:H3 σ l=some m)(hl:A5 X σ w.heap G l v)
  (hS:∀r∈l.refs.flatMap σ.below,σ.live r→∀q,G.rt q=some r→S q) (hI:∀q,Imm X σ w.heap G q→S q):LA S ow w.heap j m v:=by
 cases l<;>simp only[H3]at h<;>try (cases h;done)
 case int=>obtain rfl:=oI h;exact hl
 case bool=>obtain rfl:=oI h;exact hl
 case str=>obtain rfl:=oI h;exact hl
 case sh=>obtain rfl:=oI h;exact A2.mono hI hl
 case spt=>obtain rfl:=oI h;exact A3y.mono hI hl
 case ow r=>
  split at h
  ·rename_i f xs hr
   obtain rfl:=oI h
   rw[hl.2 f xs (St.dat_of hr)]
   exact A1d (hs.row r _ hr) (hS r (by simp[A0.refs];exact A00 rfl) ⟨_,hr,by simp⟩) hI
  ·cases h
 case sub r off len=>
  split at h
  ·rename_i f xs hr
   obtain rfl:=oI h
   exact A5b (hs.row r _ hr) hr hl (hS r (by simp[A0.refs];exact A00 rfl) ⟨_,hr,by simp⟩) hI
  ·cases h
 case pa r i c=>
  split at h
  ·rename_i f xs hr
   obtain⟨p,hp,rfl⟩:=oM h
   obtain⟨S',h1,h2⟩:=hs.pa2 (g:=p.1) (ys:=p.2) hl hr hp
   refine A2.mono (fun q hq=>?_) h1.toRd
   rcases h2 q hq with h|h
   ·exact hS r (by simp[A0.refs];exact A00 rfl) ⟨_,hr,by simp⟩ q h
   ·exact hI q h
  ·cases h
 case clo g caps=>
  obtain⟨cs,hcs,rfl⟩:=oM h
  obtain⟨vs,e,hv⟩:=hl
  refine⟨vs,e,?_⟩
  have hS':∀c∈caps,∀r,c= .own r→∀r'∈σ.below r,σ.live r'→∀q,G.rt q=some r'→S q:=by
   intro c hc r e r' hr'
   refine hS r' ?_
   simp only[zB1,A0.refs,List.mem_filterMap]
   exact⟨r,⟨c,hc,by rw[e]⟩,hr'⟩
  clear hS h e
  induction hv generalizing cs with
  |nil=>simp at hcs;subst hcs;exact .nil
  |cons hc _ ih=>
   rw[List.mapM_cons]at hcs
   obtain⟨c',hc',hcs⟩:=oB hcs
   obtain⟨cs',hcs',hcs⟩:=oB hcs
   obtain rfl:=oI hcs
   refine .cons ?_ (ih _ hcs' fun c hc=>hS' c (zF _ hc))
   split at hc'
   ·obtain rfl:=oI hc'
    exact A3y.mono hI hc
   ·rename_i r
    split at hc'
    ·rename_i f ls hr
     obtain⟨⟨x,us,rest⟩,hx,hc'⟩:=oB hc'
     dsimp only at hc'
     split at hc'
     ·rename_i hrest
      obtain rfl:=oI hc'
      obtain⟨b,arr,e,fr,d1,d2,d3,d4,d5,d6⟩:=hs.row r _ hr
      have hbel:=hS' _ (zM ..) r rfl
      obtain⟨v1,v2,k1,k2,k3,_⟩:=A3f hs hI hx d6 fun r' hr'=>hbel r' (by unfold St.below;rw[hr];simp only[List.mem_cons,A6.refs];exact .inr hr')
      cases k2
      rw[zH1]at k1
      rw[hc.2 f ls hr,d1]
      refine⟨b,0,arr,e,fr,rfl,d3,hbel r (A00 rfl) ⟨_,hr,by simp⟩ b d2,?_⟩
      have:seg arr 0 f.size=v1:=by
       simp only[seg,List.drop_zero]
       rw[k1,←k3.len,List.take_length]
      rw[this];exact k3
     ·cases hc'
    ·cases hc'
theorem A6x (hs:Sim X σ a w G){S:Nat→Prop}{ow:Nat→Option Nat}{j:Nat}{l m:A0}{v:Value}(h:G4 X.deep σ l=some m)(hl:A5 X σ w.heap G l v)
  (hT:∀r∈l.refs,∀q,G.rt q=some r→ow q=some j) (hI:∀q,Imm X σ w.heap G q→S q):LA S ow w.heap j m v:=by
 cases l<;>simp only[G4]at h<;>try (cases h;done)
 case int=>obtain rfl:=oI h;exact hl
 case bool=>obtain rfl:=oI h;exact hl
 case str=>obtain rfl:=oI h;exact hl
 case sh=>obtain rfl:=oI h;exact A2.mono hI hl
 case ow r=>
  split at h
  ·rename_i f xs hr
   cases hd:X.deep||f.flat<;>simp only[hd,zB,zA]at h
   ·cases h
   obtain rfl:=oI h
   rw[hl.2 f xs (St.dat_of hr)]
   exact A78 (hs.row r _ hr) hd (hT r (by simp[A0.refs]))
  ·cases h
theorem X6 {x:Operand}{l:A0}(h:σ.ev1 x=some l):σ.ev x=some (.v (.one l)):=by
 unfold St.ev1 at h
 split at h
 ·obtain rfl:=oI h;assumption
 ·cases h
theorem A8o {deep:Bool}{f:Kd}{x:Operand}{z:TV}(h:U4 deep σ (.bx f) x=some z):∃r ls,σ.ev1 x=some (.ptr r 0 0)∧σ.look r=some (.box f ls)∧∃ms,ls.mapM (G4 deep σ)=some ms∧z= .agg ms:=by
 simp only[U4]at h
 split at h
 ·rename_i r hx
  split at h
  ·rename_i g ls hr
   cases hd:decide (g=f)<;>simp only[hd,zB,zA]at h
   ·cases h
   rw[zG]at hd
   subst hd
   obtain⟨ms,h1,h2⟩:=oM h
   exact⟨r,ls,hx,hr,ms,h1,h2.symm⟩
  ·cases h
 ·cases h
def W4 (dst:Option Nat):Nat→List A0→List (Nat×(Option (Nat×Nat)×Nat))
 |_,[]=>[]
 |j,l::t=>(match l with
  | .pa r i c=>[(r,(some (i,c),key dst j))]
  |l=>l.refs.map fun r=>(r,(none,key dst j)))++W4 dst (j+1) t
def E9 (σ:St)(ms:List Md):Nat→List Operand→List (Nat×(Option (Nat×Nat)×Nat))
 |_,[]=>[]
 |i,x::xs=>(match B0 ms i,σ.ev x with
   | .give,some a=>W4 (some i) 0 a.leaves
   | .io,some a=>W4 (some i) 0 a.leaves
   | .bx _,some (.v (.one (.ptr r _ _)))=>(match σ.look r with
    |some (.box _ ls)=>(r,(none,key (some i) 63))::W4 (some i) 0 ls
    |_=>[])
   |_,_=>[])++E9 σ ms (i+1) xs
theorem A15 (dst:Option Nat):∀(ls:List A0) (j:Nat),(W4 dst j ls).map (·.1)=ls.flatMap A0.refs
 |[],_=>rfl
 |l::t,j=>by cases l<;>simp[W4,A15 dst t,Function.comp_def,A0.refs]
theorem A2e {deep:Bool}(ms:List Md):∀(xs:List Operand) (i:Nat) (as:List TV),F9 deep σ ms i xs=some as→(E9 σ ms i xs).map (·.1)=C2 σ ms i xs
 |[],_,_,_=>rfl
 |x::xs,i,as,h=>by
  simp only[F9]at h
  obtain⟨z,hz,h⟩:=oB h
  obtain⟨zs,hzs,h⟩:=oB h
  simp only[E9,C2,List.map_append,A2e ms xs _ _ hzs]
  congr 1
  cases hm:B0 ms i with
  |ro=>cases he:σ.ev x<;>simp only[List.map_nil]
  |give=>
    cases he:σ.ev x<;>simp only[List.map_nil]
    rw[A15];rfl
  |io=>
    cases he:σ.ev x<;>simp only[List.map_nil]
    rw[A15];rfl
  |bx f=>
   rw[hm]at hz
   obtain⟨r,ls,e1,e2,_⟩:=A8o hz
   rw[X6 e1]
   simp only[e2,List.map_cons,A15,AV.refs,AV.leaves,TV.leaves,A0.refs,zV,List.flatMap_nil,zH1,St.below,A6.refs]
theorem H6 {α:Type}{idx:List (Nat×α)}(hd:distinct (idx.map (·.1))=true){r:Nat}{k:α}(h:(r,k)∈idx):look r idx=some k:=by
 induction idx with
 |nil=>simp at h
 |cons p t ih=>
  obtain⟨r',k'⟩:=p
  simp only[List.map_cons,distinct]at hd
  cases hm:E6 r' (t.map (·.1))<;>simp only[hm,zB,zA]at hd
  ·rcases List.mem_cons.mp h with e|h
   ·obtain⟨rfl,rfl⟩:=zQ e
    simp[look]
   ·have hne:r'≠r:=by
     rintro rfl
     have:r'∈t.map (·.1):=List.mem_map.mpr ⟨_,h,rfl⟩
     rw[D6.mpr this]at hm;cases hm
    simp only[look,A1o (show r≠r' from fun h=>hne h.symm),zA]
    exact ih hd h
  ·cases hd
theorem X9 {f:A0→Option A0}{R:A0→Value→Prop}{R':Nat→A0→Value→Prop}:∀{ls ms:List A0} {vs:List Value} {j:Nat},ls.mapM f=some ms→A7 R ls vs→
  (∀n l m v,ls[n]?=some l→f l=some m→R l v→R' (j+n) m v)→F0 R' j ms vs
 |[],ms,vs,j,h,hl,hR=>by
  simp at h;subst h;cases hl;exact .nil
 |l::ls,ms,vs,j,h,hl,hR=>by
  rw[List.mapM_cons]at h
  obtain⟨m,hm,h⟩:=oB h
  obtain⟨ms',hms,h⟩:=oB h
  obtain rfl:=oI h
  cases hl with
  |cons h1 h2=>
   refine .cons (hR 0 l m _ rfl hm h1) (X9 hms h2 fun n l' m' v h3 h4 h5=>?_)
   have:=hR (n+1) l' m' v (by simpa using h3) h4 h5
   rwa[show j+1+n=j+(n+1)by omega]
theorem mapM_length {f:A0→Option A0}:∀{ls ms:List A0},ls.mapM f=some ms→ms.length=ls.length
 |[],ms,h=>by simp at h;subst h;rfl
 |l::ls,ms,h=>by
  rw[List.mapM_cons]at h
  obtain⟨m,hm,h⟩:=oB h
  obtain⟨ms',hms,h⟩:=oB h
  obtain rfl:=oI h
  simp[mapM_length hms]
theorem A7b (hs:Sim X σ a w G){x:Operand}{y z:TV}(hx:σ.evT x=some y){f:A0→Option A0}(h:y.mapM f=some z){R':Nat→A0→Value→Prop}
  (hR:∀n l m v,y.leaves[n]?=some l→f l=some m→A5 X σ w.heap G l v→R' n m v):∃us,F0 R' 0 z.leaves us∧F2 z us (a.eval x):=by
 obtain⟨k1,_,_⟩:=hs.evT hx
 have hu:y≠ .one .undef:=by
  rintro rfl
  unfold St.evT at hx
  split at hx
  ·cases hx
  ·obtain rfl:=oI hx
   rename_i h1 h2
   exact h1 rfl
  ·cases hx
 cases y with
 |one l=>
  obtain⟨m,hm,rfl⟩:=oM h
  have hl:=k1.resolve_left (fun e=>hu (by rw[e]))
  exact⟨[a.eval x],.cons (hR 0 l m _ rfl hm hl) .nil,rfl⟩
 |agg ls=>
  obtain⟨ms,hm,rfl⟩:=oM h
  obtain⟨vs,e,hv⟩:=k1
  refine⟨vs,X9 hm hv fun n l m v h1 h2 h3=>by rw[zS];exact hR n l m v h1 h2 h3,e,?_⟩
  rw[←hv.length,mapM_length hm]
theorem M0 {x:Operand}{y:TV}(hx:σ.evT x=some y):σ.ev x=some (.v y):=by
 unfold St.evT at hx
 split at hx
 ·cases hx
 ·rename_i h;obtain rfl:=oI hx;exact h
 ·cases hx
theorem A16 (dst:Option Nat):∀(ls:List A0) (j n:Nat) (l:A0) (r:Nat),ls[n]?=some l→r∈l.refs→(∀r i c,l≠ .pa r i c)→(r,(none,key dst (j+n)))∈W4 dst j ls
 |[],j,n,l,r,h,_,_=>by simp at h
 |l'::t,j,0,l,r,h,hr,hno=>by
  simp at h;subst h
  simp only[W4,zY]
  left
  cases l'<;>first|exact absurd rfl (hno _ _ _)|exact List.mem_map.mpr ⟨r,hr,rfl⟩
 |l'::t,j,n+1,l,r,h,hr,hno=>by
  simp only[W4,zY]
  right
  have:=A16 dst t (j+1) n l r (by simpa using h) hr hno
  rwa[show j+1+n=j+(n+1)by omega]at this
theorem A4v (dst:Option Nat):∀(ls:List A0) (j n r i c:Nat),ls[n]?=some (.pa r i c)→(r,(some (i,c),key dst (j+n)))∈W4 dst j ls
 |[],j,n,r,i,c,h=>by simp at h
 |l'::t,j,0,r,i,c,h=>by
  simp at h;subst h
  simp only[W4,zY]
  exact .inl (zM ..)
 |l'::t,j,n+1,r,i,c,h=>by
  simp only[W4,zY]
  right
  have:=A4v dst t (j+1) n r i c (by simpa using h)
  rwa[show j+1+n=j+(n+1)by omega]at this
theorem A7n {deep:Bool}{l m:A0}(h:G4 deep σ l=some m):∀r i c,l≠ .pa r i c:=by rintro r i c rfl;cases h
def U9 (X:Ctx)(σ:St)(h:Array Obj)(G:Gh)(r i c:Nat)(S':Nat→Prop)(v:Value):Prop:=∀f xs,σ.look r=some (.data f xs)→∀p,E3 f (xs.getD i f.zero) c=some p→
 X.deep=true∧i<xs.length∧c<f.size∧(∀q,S' q→G.rt q=some r)∧∃(b cap:Nat) (arr:Array Value) (e:TypeId) (fr:Nat×Nat) (ow:Nat→Nat),G.hv r= .slice (some ⟨b,0,none⟩) xs.length cap∧xs.length≤cap∧G.rt b=some r∧
  h[b]?=some (.cells arr e fr)∧arr.size=cap*f.size∧NK f fr arr.size∧¬S' b∧arr[i*f.size+c]?=some v∧A2 true h (.sl p.1) p.2 [v] S'∧
  (∀i' x,i'≠i→xs[i']?=some x→A2 true h f x (seg arr (i'*f.size) f.size) (fun q=>(G.rt q=some r∧q≠b∧ow q=i')∧¬S' q))∧
  C6 h f (xs.getD i f.zero) c (seg arr (i*f.size) f.size) (fun q=>(G.rt q=some r∧q≠b∧ow q=i)∧¬S' q)
theorem Sim.part (hs:Sim X σ a w G)(hd:X.deep=true){r i c:Nat}{v:Value}(hl:A5 X σ w.heap G (.pa r i c) v):∃S',U9 X σ w.heap G r i c S' v:=by
 classical
 by_cases hex:∃f xs p,σ.look r=some (.data f xs)∧E3 f (xs.getD i f.zero) c=some p
 ·obtain⟨f,xs,p,hr,hc⟩:=hex
  obtain⟨hi,hcs,b,n,cap,arr,e,fr,e1,e2,e3⟩:=hl.2 f xs (St.dat_of hr)
  rcases hs.row r _ hr with⟨_,e'⟩|⟨b',cap',arr',e',fr',ow,d1,d2,d3,d4,d5,d6,d7⟩
  ·rw[e1]at e';simp at e'
  ·rw[e1]at d1;simp at d1;obtain⟨rfl,rfl,rfl⟩:=d1
   rw[e2]at d4;obtain⟨rfl,rfl,rfl⟩:arr=arr'∧e=e'∧fr=fr':=by simpa using d4
   have hx:xs[i]?=some xs[i]:=List.getElem?_eq_getElem hi
   have hg:xs.getD i f.zero=xs[i]:=by simp[List.getD,hx]
   have d7':∀(i':Nat) (x:f.T),xs[i']?=some x→A2 true w.heap f x (seg arr (i'*f.size) f.size) (fun q=>G.rt q=some r∧q≠b∧ow q=i'):=by
    intro i' x hx'
    have:=d7 i' x hx'
    rw[hd]at this
    refine this.mono fun q hq=>?_
    unfold C0 at hq
    rwa[if_pos hd]at hq
   obtain⟨S',u,k1,k2,k3,k4⟩:=A2.toHole (d7' i _ hx) (by rw[←hg];exact hc)
   rw[C5 hcs,e3]at k1
   obtain rfl:=oI k1
   refine⟨S',fun f2 xs2 hr2 p2 hc2=>?_⟩
   rw[hr]at hr2
   have hh:=oI hr2
   injection hh with h1 h2
   subst h1
   obtain rfl:=eq_of_heq h2
   rw[hc]at hc2
   obtain rfl:=oI hc2
   refine⟨hd,hi,hcs,fun q hq=>(k2 q hq).1,b,cap,arr,e,fr,ow,e1,d2,d3,e2,d5,d6,fun hb=>(k2 b hb).2.1 rfl,e3,k3,fun i' x hne hx'=>(d7' i' x hx').mono fun q hq=>⟨hq,fun hc=>hne ?_⟩,by rw[hg];exact k4⟩
   rw[←hq.2.2,(k2 q hc).2.2]
 ·exact⟨fun _=>False,fun f xs hr p hc=>absurd ⟨f,xs,p,hr,hc⟩ hex⟩
theorem B0t (hs:Sim X σ a w G){S:Nat→Prop}{ow:Nat→Option Nat}{j:Nat}{l m:A0}{v:Value}(h:N2 X.deep σ l=some m)(hl:A5 X σ w.heap G l v)
  (hT:(∀r i c,l≠ .pa r i c)→∀r∈l.refs,∀q,G.rt q=some r→ow q=some j) (hP:∀r i c,l= .pa r i c→∀f xs p,σ.look r=some (.data f xs)→E3 f (xs.getD i f.zero) c=some p→X.deep=true→A2 true w.heap (.sl p.1) p.2 [v] (fun q=>ow q=some j)) (hI:∀q,Imm X σ w.heap G q→S q):LA S ow w.heap j m v:=by
 by_cases hpa:∃r i c,l= .pa r i c
 ·obtain⟨r,i,c,rfl⟩:=hpa
  simp only[N2]at h
  cases hd:X.deep<;>simp only[hd,zB,zA]at h
  ·cases h
  split at h
  ·rename_i f xs hr
   obtain⟨p,hp,rfl⟩:=oM h
   exact hP r i c rfl f xs p hr hp hd
  ·cases h
 ·have hno:∀r i c,l≠ .pa r i c:=fun r i c e=>hpa ⟨r,i,c,e⟩
  refine A6x hs (m:=m) (by cases l<;>first|exact absurd rfl (hno _ _ _)|exact h) hl (hT hno) hI
theorem A9q {us:List Value}{v:Value}{ow:Nat→Option Nat}{h:Array Obj}{p:Nat}{md:Md}{x:TV}(hm:∀f,md≠ .bx f)(ht:F2 x us v):A3x ow h p md x us v:=by
 cases md with
 |bx f=>exact absurd rfl (hm f)
 |_=>exact ht
theorem A5e (hs:Sim X σ a w G){S:Nat→Prop}{ow:Nat→Option Nat}{ms:List Md}(hI:∀q,Imm X σ w.heap G q→S q):∀{xs:List Operand} {i:Nat} {as:List TV},F9 X.deep σ ms i xs=some as→
  (∀r k,(r,(none,k))∈E9 σ ms i xs→∀q,G.rt q=some r→ow q=some k)→
  (∀r i' c k,(r,(some (i',c),k))∈E9 σ ms i xs→∀v,A5 X σ w.heap G (.pa r i' c) v→∀f xs p,σ.look r=some (.data f xs)→E3 f (xs.getD i' f.zero) c=some p→X.deep=true→A2 true w.heap (.sl p.1) p.2 [v] (fun q=>ow q=some k))→
  (∀r∈L4 σ ms i xs,σ.live r→∀q,G.rt q=some r→S q)→H5 S ow w.heap ms i as (xs.map a.eval)
 |[],i,as,h,_,_,_=>by simp only[F9,zO]at h;subst h;rfl
 |x::xs,i,as,h,hi,hpp,hr=>by
  simp only[F9]at h
  obtain⟨z,hz,h⟩:=oB h
  obtain⟨zs,hzs,h⟩:=oB h
  obtain rfl:=oI h
  simp only[E9,L4,zY]at hi hpp hr
  have htl:=A5e hs hI hzs (fun r k h=>hi r k (.inr h)) (fun r i' c k h=>hpp r i' c k (.inr h)) (fun r h=>hr r (.inr h))
  have hd:∃us,F0 (fun j=>LA S ow w.heap (key (some i) j)) 0 z.leaves us∧A3x ow w.heap i (B0 ms i) z us (a.eval x):=by
   cases hm:B0 ms i with
   |ro=>
    rw[hm]at hz hr
    simp only[U4]at hz
    obtain⟨y,hy,hz⟩:=oB hz
    rw[M0 hy]at hr
    obtain⟨us,k1,k2⟩:=A7b (R':=fun j=>LA S ow w.heap (key (some i) j)) hs hy hz fun n l m v h1 h2 h3=>B0z hs h2 h3 (fun r hrr=>hr r (.inl (by
     simp only[zB1,AV.refs,AV.leaves]at hrr⊢
     obtain⟨r',h4,h5⟩:=hrr
     exact⟨r',⟨l,List.mem_of_getElem? h1,h4⟩,h5⟩))) hI
    exact⟨us,k1,A9q (by simp) k2⟩
   |give=>
    rw[hm]at hz hi
    simp only[U4]at hz
    obtain⟨y,hy,hz⟩:=oB hz
    rw[M0 hy]at hi
    obtain⟨us,k1,k2⟩:=A7b (R':=fun j=>LA S ow w.heap (key (some i) j)) hs hy hz fun n l m v h1 h2 h3=>A6x hs h2 h3 (fun r hrr=>hi r _ (.inl (by
     have:=A16 (some i) y.leaves 0 n l r h1 hrr (A7n h2)
     rwa[zS]at this))) hI
    exact⟨us,k1,A9q (by simp) k2⟩
   |io=>
    rw[hm]at hz hi hpp
    simp only[U4]at hz
    obtain⟨y,hy,hz⟩:=oB hz
    rw[M0 hy]at hi hpp
    obtain⟨us,k1,k2⟩:=A7b (R':=fun j=>LA S ow w.heap (key (some i) j)) hs hy hz fun n l m v h1 h2 h3=>B0t hs h2 h3 (fun hno r hrr=>hi r _ (.inl (by
     have:=A16 (some i) y.leaves 0 n l r h1 hrr hno
     rwa[zS]at this))) (fun r i' c e=>by
      subst e
      refine hpp r i' c _ (.inl ?_) v h3
      have:=A4v (some i) y.leaves 0 n r i' c h1
      rwa[zS]at this) hI
    exact⟨us,k1,A9q (by simp) k2⟩
   |bx f=>
    rw[hm]at hz hi
    obtain⟨r,ls,e1,e2,ms',e3,rfl⟩:=A8o hz
    rw[X6 e1]at hi
    simp only[e2,List.mem_cons]at hi
    obtain⟨b,arr,e,fr,d1,d2,d3,d4,d5,d6⟩:=hs.row r _ e2
    have hv:=(hs.ev1 e1 (by simp)).1
    obtain⟨b',h1,h2⟩:=hv.2.2 f ls e2
    rw[d1]at h1;simp at h1;subst h1
    refine⟨arr.toList,X9 e3 d6 fun n l m v h1 h2 h3=>?_,ms',b,arr,e,fr,rfl,h2,d3,d4,rfl,by rw[mapM_length e3];exact d5,hi r _ (.inl (.inl rfl)) b d2⟩
    rw[zS]
    refine A6x hs h2 h3 (fun r' hrr=>hi r' _ (.inl (.inr ?_))) hI
    have:=A16 (some i) ls 0 n l r' h1 hrr (A7n h2)
    rwa[zS]at this
  obtain⟨us,h1,h2⟩:=hd
  exact⟨us,_,_,rfl,h1,h2,htl⟩
def U3 (X:Ctx)(σ:St)(h:Array Obj)(G:Gh)(PS:Nat→Nat→Prop)(r:Nat×Option (Nat×Nat))(v:Value):Prop:=match r.2 with
 |none=>v=G.hv r.1∧((∃f xs,σ.look r.1=some (.data f xs)∧∃p n m,v= .slice p n m)∨∃f ls b,σ.look r.1=some (.box f ls)∧v= .pointer (some ⟨b,0,none⟩))
 |some ic=>(∃f xs p,σ.look r.1=some (.data f xs)∧E3 f (xs.getD ic.1 f.zero) ic.2=some p)∧(∃p n m,v= .slice p n m)∧U9 X σ h G r.1 ic.1 ic.2 (PS r.1) v
theorem A7.app {α β:Type}{R:α→β→Prop}:∀{l l':List α} {m m':List β},A7 R l m→A7 R l' m'→A7 R (l++l') (m++m')
 |_,_,_,_,.nil,h=>h
 |_,_,_,_,.cons h1 h2,h=> .cons h1 (A7.app h2 h)
theorem A0m (hs:Sim X σ a w G){PS:Nat→Nat→Prop}:∀{ls ms:List A0} {vs:List Value},ls.mapM (N2 X.deep σ)=some ms→A7 (A5 X σ w.heap G) ls vs→
  (∀r i c v,.pa r i c∈ls→A5 X σ w.heap G (.pa r i c) v→U9 X σ w.heap G r i c (PS r) v)→A7 (U3 X σ w.heap G PS) (ls.flatMap L3) (N3 ms vs)
 |[],ms,vs,h,hl,_=>by simp at h;subst h;cases hl;exact .nil
 |l::ls,ms,vs,h,hl,hP=>by
  rw[List.mapM_cons]at h
  obtain⟨m,hm,h⟩:=oB h
  obtain⟨ms',hms,h⟩:=oB h
  obtain rfl:=oI h
  cases hl with
  |@cons _ v _ _ h1 h2=>
   have ih:=A0m hs hms h2 fun r i c v hr=>hP r i c v (zF _ hr)
   cases l<;>simp only[N2,G4]at hm<;>try (cases hm;done)
   case int=>obtain rfl:=oI hm;simpa[N3,L3,A0.refs]using ih
   case bool=>obtain rfl:=oI hm;simpa[N3,L3,A0.refs]using ih
   case str=>obtain rfl:=oI hm;simpa[N3,L3,A0.refs]using ih
   case sh=>obtain rfl:=oI hm;simpa[N3,L3,A0.refs]using ih
   case ow r=>
    split at hm
    ·rename_i f xs hr
     cases hd:X.deep||f.flat<;>simp only[hd,zB,zA]at hm
     ·cases hm
     obtain rfl:=oI hm
     simp only[zV,L3,A0.refs,List.map_cons,List.map_nil,N3,List.singleton_append]
     refine .cons ⟨h1.2 f xs (St.dat_of hr),.inl ⟨f,xs,hr,?_⟩⟩ ih
     rw[h1.2 f xs (St.dat_of hr)]
     rcases hs.row r _ hr with⟨_,e⟩|⟨b,cap,arr,e,fr,ow,d1,_⟩
     ·exact⟨_,_,_,e⟩
     ·exact⟨_,_,_,d1⟩
    ·cases hm
   case pa r i c=>
    cases hd:X.deep<;>simp only[hd,zB,zA]at hm
    ·cases hm
    split at hm
    ·rename_i f xs hr
     obtain⟨p,hp,rfl⟩:=oM hm
     simp only[zV,L3,N3,List.singleton_append]
     have hpo:=hP r i c v (zM ..) h1
     refine .cons ⟨⟨f,xs,p,hr,hp⟩,?_,hpo⟩ ih
     obtain⟨_,_,_,_,b,cap,arr,e,fr,ow,_,_,_,_,_,_,_,_,k,_⟩:=hpo f xs hr p hp
     simp only[A2]at k
     rcases k with⟨_,a',c',e',_⟩|⟨b',off,cap',arr',e',fr',ow',e1,_⟩
     ·simp at e';exact⟨_,_,_,e'⟩
     ·simp at e1;exact⟨_,_,_,e1⟩
    ·cases hm
theorem A38 (hs:Sim X σ a w G){PS:Nat→Nat→Prop}{ms:List Md}:∀{xs:List Operand} {i:Nat} {as:List TV},F9 X.deep σ ms i xs=some as→
  (∀r i' c k,(r,(some (i',c),k))∈E9 σ ms i xs→∀v,A5 X σ w.heap G (.pa r i' c) v→U9 X σ w.heap G r i' c (PS r) v)→A7 (U3 X σ w.heap G PS) (D8 σ ms i xs) (C8 ms i as (xs.map a.eval))
 |[],i,as,h,_=>by simp only[F9,zO]at h;subst h;exact .nil
 |x::xs,i,as,h,hP=>by
  simp only[F9]at h
  obtain⟨z,hz,h⟩:=oB h
  obtain⟨zs,hzs,h⟩:=oB h
  obtain rfl:=oI h
  simp only[E9,zY]at hP
  simp only[D8,List.map_cons,C8]
  refine A7.app ?_ (A38 hs hzs fun r i' c k h=>hP r i' c k (.inr h))
  cases hm:B0 ms i with
  |ro=>cases σ.ev x<;>exact .nil
  |give=>cases σ.ev x<;>exact .nil
  |io=>
   rw[hm]at hz hP
   simp only[U4]at hz
   obtain⟨y,hy,hz⟩:=oB hz
   rw[M0 hy]at hP⊢
   have hP':∀r i' c v,.pa r i' c∈y.leaves→A5 X σ w.heap G (.pa r i' c) v→U9 X σ w.heap G r i' c (PS r) v:=by
    intro r i' c v hm hl
    obtain⟨n,hn⟩:=List.getElem?_of_mem hm
    exact hP r i' c _ (.inl (A4v (some i) y.leaves 0 n r i' c hn)) v hl
   obtain⟨k1,_,_⟩:=hs.evT hy
   cases y with
   |one l=>
    obtain⟨m,hm',rfl⟩:=oM hz
    have hne:l≠ .undef:=by rintro rfl;cases hm'
    have hl:=k1.resolve_left hne
    have:=A0m (PS:=PS) hs (ls:=[l]) (ms:=[m]) (vs:=[a.eval x]) (by simp[hm']) (.cons hl .nil) hP'
    simpa[AV.leaves,TV.leaves,A1q]using this
   |agg ls=>
    obtain⟨ms',hm',rfl⟩:=oM hz
    obtain⟨vs,e,hv⟩:=k1
    have:=A0m (PS:=PS) hs hm' hv hP'
    rw[e]
    simpa[AV.leaves,TV.leaves,A1q]using this
  |bx f=>
   rw[hm]at hz
   obtain⟨r,ls,e1,e2,ms',e3,rfl⟩:=A8o hz
   rw[X6 e1]
   obtain⟨b,arr,e,fr,d1,d2,d3,d4,d5,d6⟩:=hs.row r _ e2
   have hv:=(hs.ev1 e1 (by simp)).1
   obtain⟨b',h1,h2⟩:=hv.2.2 f ls e2
   simp only[AV.refs,AV.leaves,TV.leaves,zV,List.flatMap_nil,A0.refs,zH1,List.map_cons,List.map_nil]
   exact .cons ⟨by rw[h1];exact h2,.inr ⟨f,ls,b',e2,h2⟩⟩ .nil
end
end Go.Proofs.Ytalmhjlcjcnidaa.Ev

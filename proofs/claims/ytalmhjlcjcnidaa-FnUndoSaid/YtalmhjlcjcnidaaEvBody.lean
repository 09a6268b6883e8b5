/- Functions: the first frame, the results, the whole. -/
import Derived.Test.YtalmhjlcjcnidaaEvCode
set_option linter.all false
namespace Go.Proofs.Ytalmhjlcjcnidaa.Ev
open Go
section
variable {P:Program} {E:Env} {X:Ctx} {σ σ':St} {a:Act} {w w':World} {G:Gh}
def cellOf:TV→Value→Nat→Value
 | .one _,v,_=>v
 | .agg _,.agg vs,n=>vs.getD n undef
 | .agg _,_,_=>undef
theorem A0t {x:TV}{us:List Value}{v:Value}(h:F2 x us v){n:Nat}{u:Value}(hu:us[n]?=some u):cellOf x v n=u:=by
 cases x with
 |one l=>
  simp only[F2]at h;subst h
  cases n with
  |zero=>simpa[cellOf]using hu
  |succ n=>simp at hu
 |agg ls=>
  obtain⟨rfl,_⟩:=h
  obtain⟨h1,h2⟩:=List.getElem?_eq_some_iff.mp hu
  simp[cellOf,Array.getD,h1,h2]
theorem H5.get {S:Nat→Prop}{ow:Nat→Option Nat}{h:Array Obj}{ms:List Md}:∀{as:List TV} {vs:List Value} {i p:Nat} {x:TV},H5 S ow h ms i as vs→as[p]?=some x→
  ∃v us,vs[p]?=some v∧F0 (fun j=>LA S ow h (key (some (i+p)) j)) 0 x.leaves us∧A3x ow h (i+p) (B0 ms (i+p)) x us v
 |[],vs,i,p,x,_,hp=>by simp at hp
 |y::as,vs,i,0,x,h1,hp=>by
  obtain⟨us,v,vs',rfl,h3,h4,h5⟩:=h1
  simp at hp;subst hp
  exact⟨v,us,rfl,h3,h4⟩
 |y::as,vs,i,p+1,x,h1,hp=>by
  obtain⟨us,v,vs',rfl,h3,h4,h5⟩:=h1
  obtain⟨v',us',k1,k2,k3⟩:=H5.get h5 (by simpa using hp)
  rw[show i+1+p=i+(p+1)by omega]at k2 k3
  exact⟨v',us',by simpa using k1,k2,k3⟩
def A2s (h:Array Obj):Md→TV→Value→Nat→Value
 | .bx _,_,.pointer (some ⟨b,_,_⟩),n=>match h[b]? with
  |some (.cells arr _ _)=>arr.getD n undef
  |_=>undef
 | .bx _,_,_,_=>undef
 |_,x,v,n=>cellOf x v n
theorem A8l {ow:Nat→Option Nat}{h:Array Obj}{p:Nat}{md:Md}{x:TV}{us:List Value}{v:Value}(ha:A3x ow h p md x us v){n:Nat}{u:Value}(hu:us[n]?=some u):A2s h md x v n=u:=by
 cases md with
 |bx f=>
  obtain⟨ls,b,arr,e,fr,rfl,rfl,h1,_,rfl,_⟩:=ha
  obtain⟨h2,h3⟩:=List.getElem?_eq_some_iff.mp hu
  simp only[A2s,h1]
  simp at h2 h3
  simp[Array.getD,h2,h3]
 |ro=>exact A0t ha hu
 |give=>exact A0t ha hu
 |io=>exact A0t ha hu
theorem A07 (ms:List Md):∀(as:List TV) (p:Nat),(F8 ms p as).1.length=as.length∧∀(n:Nat) (x:TV),as[n]?=some x→(F8 ms p as).1[n]?=some (AV.v (K5 (B0 ms (p+n)) (p+n) x).1)
 |[],p=>by simp[F8]
 |y::as,p=>by
  obtain⟨h1,h2⟩:=A07 ms as (p+1)
  refine⟨by simp[F8,h1],fun n x hx=>?_⟩
  cases n with
  |zero=>simp at hx;subst hx;rfl
  |succ n=>
   have:=h2 n x (by simpa using hx)
   simp only[F8,List.getElem?_cons_succ,this]
   rw[show p+1+n=p+(n+1)by omega]
theorem A5o (md:Md)(p:Nat)(x:TV)(q:Nat×A6):q∈(K5 md p x).2↔(∃j f xs,x.leaves[j]?=some (.od f xs)∧q=(key (some p) j,.data f xs))∨∃f,md= .bx f∧q=(key (some p) 63,.box f (instLeaves (some p) 0 x.leaves).1):=by
 have h0:q∈(instLeaves (some p) 0 x.leaves).2↔∃j f xs,x.leaves[j]?=some (.od f xs)∧q=(key (some p) j,.data f xs):=by
  rw[instLeaves_rows];simp
 cases md with
 |bx f=>
  simp only[K5,List.mem_cons,h0]
  constructor
  ·rintro(h|h)
   ·exact .inr ⟨f,rfl,h⟩
   ·exact .inl h
  ·rintro(h|⟨f',e,h⟩)
   ·exact .inr h
   ·cases e;exact .inl h
 |ro=>simp only[K5,(instTV_leaves (some p) 0 x).2,h0];simp
 |give=>simp only[K5,(instTV_leaves (some p) 0 x).2,h0];simp
 |io=>simp only[K5,(instTV_leaves (some p) 0 x).2,h0];simp
theorem A12 (ms:List Md):∀(as:List TV) (p:Nat) (q:Nat×A6),q∈(F8 ms p as).2↔∃n x,as[n]?=some x∧q∈(K5 (B0 ms (p+n)) (p+n) x).2
 |[],p,q=>by simp[F8]
 |y::as,p,q=>by
  have ih:=A12 ms as (p+1) q
  simp only[F8,zY,ih]
  constructor
  ·rintro(h|⟨n,x,h1,h2⟩)
   ·exact⟨0,y,rfl,h⟩
   ·exact⟨n+1,x,by simpa using h1,by rwa[show p+(n+1)=p+1+n by omega]⟩
  ·rintro⟨n,x,h1,h2⟩
   cases n with
   |zero=>simp at h1;subst h1;exact .inl h2
   |succ n=>exact .inr ⟨n,x,by simpa using h1,by rwa[show p+1+n=p+(n+1)by omega]⟩
theorem LA.toL {S:Nat→Prop}{ow:Nat→Option Nat}{h:Array Obj}{j:Nat}{l:A0}{v:Value}(hno:∀f xs,l≠ .od f xs)(hS:∀q,S q→Imm X σ h G q)(hl:LA S ow h j l v):A5 X σ h G l v:=by
 cases l with
 |int=>exact hl
 |bool=>exact hl
 |str=>exact hl
 |sh f xs=>exact A2.mono hS hl
 |od f xs=>exact absurd rfl (hno f xs)
 |spt f x c=>exact A3y.mono hS hl
 |clo g caps=>
  obtain⟨vs,e,hv⟩:=hl
  refine⟨vs,e,hv.mono fun c v hc=>?_⟩
  cases c with
  |own r=>exact hc.elim
  |sh f x=>exact A3y.mono hS hc
 |_=>exact hl.elim
theorem A8w {deep:Bool}{w:World}{S:Nat→Prop}{ow0:Nat→Option Nat}{as:List TV}{vs:List Value}{ms:List Md}{ntmps:Nat}(hS:∀q,S q→q<w.heap.size∧ow0 q=none)(hlt:∀q j,ow0 q=some j→q<w.heap.size)
  (hargs:H5 S ow0 w.heap ms 0 as vs) (h:entry ms ntmps as=some σ):
  ∃G,Sim ⟨deep,w,S,fun q=>ow0 q≠none,C8 ms 0 as vs⟩ σ {tmps:=vs.toArray++Array.replicate (ntmps - vs.toArray.size) undef,defers:=[]} w G:=by
 classical
 unfold entry at h
 cases hall:as.all (fun x=>Nat.ble x.leaves.length 63)<;>simp only[hall,zT,zU,zB,zA]at h
 ·cases h
 obtain⟨k1,k2,k3,k4,k5⟩:=B2 h
 have hlen:=hargs.len
 have h64:∀x∈as,x.leaves.length≤63:=fun x hx=>Nat.ble_true (List.all_eq_true.mp hall x hx)
 let hv:Nat→Value:=fun k=>if k % 64=63 then vs.getD (k / 64) undef else A2s w.heap (B0 ms (k / 64)) (as.getD (k / 64) (.one .undef)) (vs.getD (k / 64) undef) (k % 64)
 let G:Gh:={
  rt:=fun q=>match ow0 q with
   |some k=>if deep=true∨(∃c m,hv k= .slice (some ⟨q,0,none⟩) c m)∨k % 64=63 then some k else none
   |none=>none
  hv:=hv}
 generalize hX:(⟨deep,w,S,fun q=>ow0 q≠none,C8 ms 0 as vs⟩:Ctx)=X
 have hhv:∀p x j us v u,as[p]?=some x→vs[p]?=some v→A3x ow0 w.heap p (B0 ms p) x us v→us[j]?=some u→j<x.leaves.length→hv (key (some p) j)=u:=by
  intro p x j us v u h1 h2 h3 h4 h5
  have:=h64 x (List.mem_of_getElem? h1)
  have e1:key (some p) j / 64=p:=by simp only[key];omega
  have e2:key (some p) j % 64=j:=by simp only[key];omega
  show(if key (some p) j % 64=63 then _ else A2s w.heap (B0 ms (key (some p) j / 64)) (as.getD (key (some p) j / 64) (.one .undef)) (vs.getD (key (some p) j / 64) undef) (key (some p) j % 64))=u
  rw[e1,e2,if_neg (by omega)]
  simp only[List.getD,h1,h2,Option.getD_some]
  exact A8l h3 h4
 have hhv63:∀p v,vs[p]?=some v→hv (key (some p) 63)=v:=by
  intro p v h1
  have e1:key (some p) 63 / 64=p:=by simp only[key];omega
  have e2:key (some p) 63 % 64=63:=by simp only[key];omega
  show(if key (some p) 63 % 64=63 then vs.getD (key (some p) 63 / 64) undef else _)=v
  rw[e2,if_pos rfl,e1]
  simp[List.getD,h1]
 have hrt:∀q k,G.rt q=some k→ow0 q=some k:=by
  intro q k hq
  change (match ow0 q with|some k=>_|none=>none)=some k at hq
  cases h0:ow0 q with
  |none=>rw[h0]at hq;cases hq
  |some k'=>
   rw[h0]at hq
   dsimp only at hq
   split at hq
   ·exact hq
   ·cases hq
 have hrow:∀q,q∈(F8 ms 0 as).2↔∃n x,as[n]?=some x∧((∃j f xs,x.leaves[j]?=some (.od f xs)∧q=(key (some n) j,A6.data f xs))∨∃f,B0 ms n= .bx f∧q=(key (some n) 63,A6.box f (instLeaves (some n) 0 x.leaves).1)):=by
  intro q;rw[A12];simp only[zS,A5o]
 have hrowD:∀{n x j f xs},as[n]?=some x→x.leaves[j]?=some (.od f xs)→σ.look (key (some n) j)=some (.data f xs):=fun{n x j f xs} h1 h2=>(k3 _ ((hrow _).mpr ⟨n,x,h1,.inl ⟨j,f,xs,h2,rfl⟩⟩)).2
 have hrowB:∀{n x f},as[n]?=some x→B0 ms n= .bx f→σ.look (key (some n) 63)=some (.box f (instLeaves (some n) 0 x.leaves).1):=fun{n x f} h1 h2=>(k3 _ ((hrow _).mpr ⟨n,x,h1,.inr ⟨f,h2,rfl⟩⟩)).2
 have hlook:∀r row,σ.look r=some row→(r,row)∈(F8 ms 0 as).2:=by
  intro r row hr
  by_cases hex:∃p∈(F8 ms 0 as).2,p.1=r
  ·obtain⟨p,hp,rfl⟩:=hex
   rw[(k3 p hp).2]at hr
   obtain rfl:=oI hr
   exact hp
  ·rw[k4 r fun p hp e=>hex ⟨p,hp,e⟩]at hr
   cases hr
 have himm:∀q,S q→Imm X σ w.heap G q:=by
  intro q hq
  obtain⟨h1,h2⟩:=hS q hq
  subst hX
  refine⟨h1,.inl hq,fun r hr=>?_⟩
  rw[hrt q r hr]at h2;cases h2
 have hslots:σ.slots=(F8 ms 0 as).1++List.replicate (ntmps - as.length) A1:=k1
 obtain⟨s1,s2⟩:=A07 ms as 0
 have hget:∀i,(∃x v us,as[i]?=some x∧vs[i]?=some v∧F0 (fun j=>LA S ow0 w.heap (key (some i) j)) 0 x.leaves us∧A3x ow0 w.heap i (B0 ms i) x us v∧σ.slots.getD i A1= .v (K5 (B0 ms i) i x).1∧(vs.toArray++Array.replicate (ntmps - vs.toArray.size) undef).getD i undef=v)∨
   (σ.slots.getD i A1=A1∧(vs.toArray++Array.replicate (ntmps - vs.toArray.size) undef).getD i undef=undef):=by
  intro i
  by_cases hi:i<as.length
  ·left
   obtain⟨v,us,h1,h2,h3⟩:=hargs.get (List.getElem?_eq_getElem hi)
   rw[zS]at h2 h3
   refine⟨as[i],v,us,List.getElem?_eq_getElem hi,h1,h2,h3,?_,?_⟩
   ·have:=s2 i _ (List.getElem?_eq_getElem hi)
    rw[zS]at this
    rw[hslots,List.getD,List.getElem?_append_left (by omega),this];rfl
   ·have hv:i<vs.length:=by omega
    have e:(vs.toArray++Array.replicate (ntmps - vs.toArray.size) undef)[i]?=some v:=by
     rw[Array.getElem?_append_left (by simpa using hv)];simpa using h1
    obtain⟨h3,h4⟩:=Array.getElem?_eq_some_iff.mp e
    simp only[Array.getD]
    rw[dif_pos h3];exact h4
  ·right
   refine⟨?_,?_⟩
   ·rw[hslots,List.getD,List.getElem?_append_right (by omega),List.getElem?_replicate]
    split<;>rfl
   ·simp only[Array.getD]
    split
    ·rename_i h
     simp only[Array.getInternal_eq_getElem]
     rw[Array.getElem_append_right (by simp;omega)]
     simp
    ·rfl
 have hrefs:∀n x,as[n]?=some x→∀us,F0 (fun j=>LA S ow0 w.heap (key (some n) j)) 0 x.leaves us→∀l∈(instLeaves (some n) 0 x.leaves).1,∀r∈l.refs,∃row,σ.look r=some row:=by
  intro n x hx us hus l hl r hr
  have:∀(ls:List A0) (us:List Value) (j:Nat),l∈(instLeaves (some n) j ls).1→F0 (fun j=>LA S ow0 w.heap (key (some n) j)) j ls us→∃m f xs,ls[m]?=some (.od f xs)∧r=key (some n) (j+m):=by
   intro ls
   induction ls with
   |nil=>intro us j h _;simp[instLeaves]at h
   |cons l' ls ih=>
    intro us j h ha
    cases ha with
    |cons h1 h2=>
     have key':l∈(instLeaves (some n) (j+1) ls).1→∃m f xs,(l'::ls)[m]?=some (.od f xs)∧r=key (some n) (j+m):=by
      intro hm
      obtain⟨m,f,xs,e1,e2⟩:=ih _ (j+1) hm h2
      exact⟨m+1,f,xs,by simpa using e1,by rw[e2,show j+1+m=j+(m+1)by omega]⟩
     by_cases hod:∃f xs,l'= .od f xs
     ·obtain⟨f,xs,rfl⟩:=hod
      simp only[instLeaves,List.mem_cons]at h
      rcases h with rfl|h
      ·simp[A0.refs]at hr;subst hr;exact⟨0,f,xs,rfl,rfl⟩
      ·exact key' h
     ·have e:(instLeaves (some n) j (l'::ls)).1=l'::(instLeaves (some n) (j+1) ls).1:=by
       cases l'<;>simp only[instLeaves]
       exact absurd ⟨_,_,rfl⟩ hod
      rw[e]at h
      rcases List.mem_cons.mp h with rfl|h
      ·cases l<;>simp only[LA]at h1<;>try (simp[A0.refs]at hr;done)
       rename_i g caps
       obtain⟨vs',_,hv⟩:=h1
       simp only[A0.refs,List.mem_filterMap]at hr
       obtain⟨c,hc,hr⟩:=hr
       obtain⟨i,hi⟩:=List.getElem?_of_mem hc
       obtain⟨v,_,hcv⟩:=hv.get hi
       cases c with
       |own r'=>exact hcv.elim
       |sh f x=>cases hr
      ·exact key' h
  obtain⟨m,f,xs,e1,rfl⟩:=this _ us 0 hl hus
  rw[zS]
  exact⟨_,hrowD hx e1⟩
 have hcells:∀i x v us,as[i]?=some x→vs[i]?=some v→F0 (fun j=>LA S ow0 w.heap (key (some i) j)) 0 x.leaves us→A3x ow0 w.heap i (B0 ms i) x us v→A7 (A5 X σ w.heap G) (instLeaves (some i) 0 x.leaves).1 us:=by
  intro i x v us h1 h2 h3 h4
  have hmem:F0 (fun j l u=>(x.leaves[j]?=some l∧us[j]?=some u)∧LA S ow0 w.heap (key (some i) j) l u) 0 x.leaves us:=by
   have:∀{j:Nat} {ls:List A0} {ws:List Value},F0 (fun j=>LA S ow0 w.heap (key (some i) j)) j ls ws→(∀n l,ls[n]?=some l→x.leaves[j+n]?=some l)→(∀n l,ws[n]?=some l→us[j+n]?=some l)→
     F0 (fun j l u=>(x.leaves[j]?=some l∧us[j]?=some u)∧LA S ow0 w.heap (key (some i) j) l u) j ls ws:=by
    intro j ls ws h
    induction h with
    |nil=>intro _ _;exact .nil
    |@cons j l v ls vs h _ ih=>
     intro e1 e2
     refine .cons ⟨⟨by simpa using e1 0 l rfl,by simpa using e2 0 v rfl⟩,h⟩ (ih (fun n l' hl=>?_) (fun n l' hl=>?_))
     ·have:=e1 (n+1) l' (by simpa using hl);rwa[show j+1+n=j+(n+1)by omega]
     ·have:=e2 (n+1) l' (by simpa using hl);rwa[show j+1+n=j+(n+1)by omega]
   exact this h3 (by simp) (by simp)
  refine inst_all (fun j f xs u hh=>?_) (fun j l u hno hh=>hh.2.toL hno himm) hmem
  obtain⟨⟨e1,e2⟩,hc⟩:=hh
  refine⟨A2.one hc,fun f' xs' _=>?_⟩
  exact(hhv i x j us v u h1 h2 h4 e2 (List.getElem?_eq_some_iff.mp e1).1).symm
 have hptr:∀i x v us f,as[i]?=some x→vs[i]?=some v→A3x ow0 w.heap i (B0 ms i) x us v→B0 ms i= .bx f→A5 X σ w.heap G (.ptr (key (some i) 63) 0 0) v:=by
  intro i x v us f h1 h2 h4 hm
  rw[hm]at h4
  obtain⟨ls,b,arr,e,fr,rfl,rfl,d1,d2,rfl,d3,d4⟩:=h4
  refine⟨rfl,fun f' xs' hl=>?_,fun f' ls' _=>⟨b,hhv63 i _ h2,rfl⟩⟩
  exact(St.dat_box (hrowB h1 hm) hl).elim
 have hpins:∀(as':List TV) (vs':List Value) (p:Nat),(∀n x,as'[n]?=some x→as[p+n]?=some x)→(∀n x,vs'[n]?=some x→vs[p+n]?=some x)→H5 S ow0 w.heap ms p as' vs'→
   A7 (A5 X σ w.heap G) (X5 ms p as') (C8 ms p as' vs')∧∀l∈X5 ms p as',∀r∈l.refs,∃row,σ.look r=some row:=by
  intro as'
  induction as' with
  |nil=>intro vs' p _ _ _;exact⟨.nil,by simp[X5]⟩
  |cons x as' ih=>
   intro vs' p ha hvs hR
   obtain⟨us,v,vs',rfl,h3,h4,h5⟩:=hR
   obtain⟨i1,i2⟩:=ih vs' (p+1) (fun n y hy=>by rw[show p+1+n=p+(n+1)by omega];exact ha (n+1) y (by simpa using hy)) (fun n y hy=>by rw[show p+1+n=p+(n+1)by omega];exact hvs (n+1) y (by simpa using hy)) h5
   have hx:as[p]?=some x:=by simpa using ha 0 x rfl
   have hv':vs[p]?=some v:=by simpa using hvs 0 v rfl
   simp only[X5,C8]
   have h0:A7 (A5 X σ w.heap G) (V7 (B0 ms p) p x) (match B0 ms p with
     | .io=>N3 x.leaves (A1q x v)
     | .bx _=>[v]
     |_=>[])∧∀l∈V7 (B0 ms p) p x,∀r∈l.refs,∃row,σ.look r=some row:=by
    have hc:=hcells p x v us hx hv' h3 h4
    have hptr':=hptr p x v us
    revert h4 hptr'
    cases hm:B0 ms p with
    |ro=>intro _ _;exact⟨.nil,by simp[V7]⟩
    |give=>intro _ _;exact⟨.nil,by simp[V7]⟩
    |bx f=>
     intro h4 hptr'
     refine⟨.cons (hptr' f hx hv' h4 rfl) .nil,fun l hl r hr=>?_⟩
     simp only[V7,zF1]at hl
     subst hl
     simp only[A0.refs,zF1]at hr
     subst hr
     exact⟨_,hrowB hx hm⟩
    |io=>
     intro h4 _
     have hcu:A1q x v=us:=by
      cases x with
      |one l=>simp only[A3x,F2]at h4;exact h4.symm
      |agg ls=>obtain⟨rfl,_⟩:=h4;simp[A1q]
     rw[hcu]
     refine⟨?_,fun l hl r hr=>?_⟩
     ·simp only[V7]
      have:∀(ls:List A0) (ws:List Value) (j:Nat),F0 (fun j=>LA S ow0 w.heap (key (some p) j)) j ls ws→A7 (A5 X σ w.heap G) (instLeaves (some p) j ls).1 ws→
        A7 (A5 X σ w.heap G) ((instLeaves (some p) j ls).1.filter fun| .ow _=>true|_=>false) (N3 ls ws):=by
       intro ls
       induction ls with
       |nil=>intro ws j h _;cases h;exact .nil
       |cons l ls ih=>
        intro ws j h h2
        cases h with
        |cons g1 g2=>
         cases l<;>simp only[instLeaves]at h2⊢<;>(cases h2 with|cons q1 q2=>?_)<;>first
          |exact .cons q1 (ih _ _ g2 q2)
          |exact ih _ _ g2 q2
          |exact g1.elim
      exact this _ _ 0 h3 hc
     ·simp only[V7]at hl
      exact hrefs p x hx us h3 l (List.mem_filter.mp hl).1 r hr
   refine⟨A7.app h0.1 i1,fun l hl r hr=>?_⟩
   rcases zY.mp hl with hl|hl
   ·exact h0.2 l hl r hr
   ·exact i2 l hl r hr
 obtain⟨hp1,hp2⟩:=hpins as vs 0 (fun n x h=>by simpa using h) (fun n x h=>by simpa using h) hargs
 have hXpv:X.pv=C8 ms 0 as vs:=by rw[←hX]
 have hXd:X.deep=deep:=by rw[←hX]
 have hXw:X.w0=w:=by rw[←hX]
 have hXA:X.A=fun q=>ow0 q≠none:=by rw[←hX]
 refine⟨G,rfl,?_,?_,?_,?_,?_,?_,by rw[hXw];exact Nat.le_refl _,fun _ _ _=>by rw[hXw],by rw[hXw],by rw[hXw],by rw[hXw],?_,?_,?_⟩
 ·simp[hslots,s1,hlen]
 ·intro i _
  rcases hget i with⟨x,v,us,h1,h2,h3,h4,h5,h6⟩|⟨h5,h6⟩
  ·simp only[h5,h6]
   have hc:=hcells i x v us h1 h2 h3 h4
   have hp:=hptr i x v us
   revert h4 hp
   cases hm:B0 ms i with
   |bx f=>intro h4 hp;exact .inr (hp f h1 h2 h4 rfl)
   |ro=>intro h4 _;exact A1h h4 (by rw[(instTV_leaves (some i) 0 x).1];exact hc)
   |give=>intro h4 _;exact A1h h4 (by rw[(instTV_leaves (some i) 0 x).1];exact hc)
   |io=>intro h4 _;exact A1h h4 (by rw[(instTV_leaves (some i) 0 x).1];exact hc)
  ·simp only[h5,h6];exact .inl rfl
 ·intro r row hr
  obtain⟨n,x,h1,hcase⟩:=(hrow _).mp (hlook r row hr)
  obtain⟨v,us,h4,h5,h6⟩:=hargs.get h1
  rw[zS]at h5 h6
  rcases hcase with⟨j,f,xs,h2,h3⟩|⟨f,hm,h3⟩
  ·obtain⟨rfl,rfl⟩:=zQ h3
   obtain⟨u,hu,hrel⟩:=h5.get h2
   rw[zS]at hrel
   have hgu:G.hv (key (some n) j)=u:=hhv n x j us v u h1 h4 h6 hu (List.getElem?_eq_some_iff.mp h2).1
   refine A6d hrel hgu (fun q hq hor=>?_) (fun hd q hq hno=>?_)
   ·show(match ow0 q with|some k=>_|none=>none)=_
    rw[hq]
    dsimp only
    rw[if_pos]
    rcases hor with h|⟨c,m,h⟩
    ·rw[hXd]at h;exact .inl h
    ·exact .inr (.inl ⟨c,m,by rw[←h];exact hgu⟩)
   ·refine⟨hlt q _ hq,.inr (.inl (by rw[hXA];show ow0 q≠none;rw[hq];simp)),fun r hr=>?_⟩
    change (match ow0 q with|some k=>_|none=>none)=some r at hr
    rw[hq]at hr
    dsimp only at hr
    rw[if_neg]at hr
    ·cases hr
    ·have:=h64 x (List.mem_of_getElem? h1)
     have hjl:=(List.getElem?_eq_some_iff.mp h2).1
     rintro(h|⟨c,m,h⟩|h)
     ·rw[hXd,h]at hd;cases hd
     ·exact hno ⟨c,m,by rw[←h];exact hgu.symm⟩
     ·simp only[key]at h;omega
  ·obtain⟨rfl,rfl⟩:=zQ h3
   have hc:=hcells n x v us h1 h4 h5 h6
   rw[hm]at h6
   obtain⟨ls,b,arr,e,fr,rfl,rfl,d1,d2,rfl,d3,d4⟩:=h6
   refine⟨b,arr,e,fr,hhv63 n _ h4,?_,d1,d2,?_,hc⟩
   ·show(match ow0 b with|some k=>_|none=>none)=_
    rw[d4]
    dsimp only
    rw[if_pos (.inr (.inr (by simp only[key];omega)))]
   ·rw[hc.length,←h5.length];exact d3
 ·rw[k2,hXpv];exact hp1
 ·intro q r hr;exact hlt q r (hrt q r hr)
 ·intro q r hr _ _;rw[hXA];show ow0 q≠none;rw[hrt q r hr];simp
 ·intro i _ r hr
  rcases hget i with⟨x,v,us,h1,h2,h3,h4,h5,h6⟩|⟨h5,h6⟩
  ·rw[h5]at hr
   obtain⟨l,hl,hr⟩:=zB1.mp hr
   have hl:l∈(K5 (B0 ms i) i x).1.leaves:=hl
   revert hl
   cases hm:B0 ms i with
   |bx f=>
    intro hl
    simp only[K5,TV.leaves,zF1]at hl
    subst hl
    simp only[A0.refs,zF1]at hr
    subst hr
    exact⟨_,hrowB h1 hm⟩
   |ro=>intro hl;rw[show(K5 .ro i x).1=(instTV (some i) 0 x).1 from rfl,(instTV_leaves (some i) 0 x).1]at hl;exact hrefs i x h1 us h3 l hl r hr
   |give=>intro hl;rw[show(K5 .give i x).1=(instTV (some i) 0 x).1 from rfl,(instTV_leaves (some i) 0 x).1]at hl;exact hrefs i x h1 us h3 l hl r hr
   |io=>intro hl;rw[show(K5 .io i x).1=(instTV (some i) 0 x).1 from rfl,(instTV_leaves (some i) 0 x).1]at hl;exact hrefs i x h1 us h3 l hl r hr
  ·rw[h5]at hr;simp[AV.refs,AV.leaves,A1,TV.leaves,A0.refs]at hr
 ·intro l hl r hr;rw[k2]at hl;exact hp2 l hl r hr
 ·intro r f ls hr q hq
  obtain⟨n,x,h1,hcase⟩:=(hrow _).mp (hlook r _ hr)
  rcases hcase with⟨j,f',xs,h2,h3⟩|⟨f',hm,h3⟩
  ·cases (zQ h3).2
  ·have h7:=(zQ h3).2
   injection h7 with q1 q2
   subst q1 q2
   obtain⟨v,us,h4,h5,h6⟩:=hargs.get h1
   rw[zS]at h5 h6
   obtain⟨l,hl,hq⟩:=zB1.mp hq
   exact hrefs n x h1 us h5 l hl q hq
end
end Go.Proofs.Ytalmhjlcjcnidaa.Ev

/- Calls: the caller behind the call. -/
import Derived.Test.YtalmhjlcjcnidaaEvCall2
set_option linter.all false
namespace Go.Proofs.Ytalmhjlcjcnidaa.Ev
open Go
section
variable {P:Program} {E:Env} {X:Ctx} {σ σ':St} {a:Act} {w w':World} {G:Gh}
theorem F0.get {R:Nat→A0→Value→Prop}:∀{j:Nat} {ls:List A0} {vs:List Value},F0 R j ls vs→∀{n:Nat} {l:A0},ls[n]?=some l→∃v,vs[n]?=some v∧R (j+n) l v
 |_,_,_,.nil,n,l,h=>by simp at h
 |_,_,_,.cons h1 _,0,l,h=>by simp at h;subst h;exact⟨_,rfl,h1⟩
 |j,_,_,.cons _ h2,n+1,l,h=>by
  simp at h
  obtain⟨v,h3,h4⟩:=F0.get h2 h
  exact⟨v,by simpa using h3,by rwa[show j+1+n=j+(n+1)by omega]at h4⟩
theorem B2:∀{rs:List (Nat×A6)} {σ σ':St},σ.addRows rs=some σ'→σ'.slots=σ.slots∧σ'.pins=σ.pins∧(∀p∈rs,σ.look p.1=none∧σ'.look p.1=some p.2)∧
  (∀r,(∀p∈rs,p.1≠r)→σ'.look r=σ.look r)∧(∀r row,σ.look r=some row→σ'.look r=some row)
 |[],σ,σ',h=>by simp only[St.addRows,zO]at h;subst h;simp
 |(n,row)::rs,σ,σ',h=>by
  simp only[St.addRows]at h
  split at h
  ·rename_i hn
   obtain⟨k1,k2,k3,k4,k5⟩:=B2 h
   have hold:∀r row',σ.look r=some row'→(σ.setRow n row).look r=some row':=by
    intro r row' hr
    rw[A3,if_neg];· exact hr
    ·rintro rfl;rw[hn]at hr;cases hr
   refine⟨k1,k2,fun p hp=>?_,fun r hr=>?_,fun r row' hr=>k5 r row' (hold r row' hr)⟩
   ·rcases List.mem_cons.mp hp with rfl|hp
    ·exact⟨hn,k5 _ _ (by rw[A3,if_pos rfl])⟩
    ·obtain⟨h1,h2⟩:=k3 p hp
     refine⟨?_,h2⟩
     rw[A3]at h1
     split at h1
     ·cases h1
     ·exact h1
   ·rw[k4 r fun p hp=>hr p (zF _ hp),A3,if_neg]
    exact fun e=>hr _ (zM ..) e.symm
  ·cases h
theorem key_inj {dst:Option Nat}{i j:Nat}(h:key dst i=key dst j):i=j:=by
 cases dst<;>simp only[key]at h<;>omega
theorem instLeaves_append (dst:Option Nat):∀(l1 l2:List A0) (j:Nat),instLeaves dst j (l1++l2)=((instLeaves dst j l1).1++(instLeaves dst (j+l1.length) l2).1,(instLeaves dst j l1).2++(instLeaves dst (j+l1.length) l2).2)
 |[],l2,j=>by simp[instLeaves]
 |l::l1,l2,j=>by
  have:=instLeaves_append dst l1 l2 (j+1)
  rw[show j+1+l1.length=j+(l::l1).length by simp;omega]at this
  cases l<;>simp[instLeaves,this]
theorem instLeaves_rows (dst:Option Nat):∀(ls:List A0) (j:Nat) (p:Nat×A6),p∈(instLeaves dst j ls).2↔∃n f xs,ls[n]?=some (.od f xs)∧p=(key dst (j+n),.data f xs)
 |[],j,p=>by simp[instLeaves]
 |l::ls,j,p=>by
  have ih:=instLeaves_rows dst ls (j+1) p
  have hsh:(∃n f xs,ls[n]?=some (.od f xs)∧p=(key dst (j+1+n),A6.data f xs))↔∃n f xs,0<n∧(l::ls)[n]?=some (.od f xs)∧p=(key dst (j+n),.data f xs):=by
   constructor
   ·rintro⟨n,f,xs,h1,h2⟩;exact⟨n+1,f,xs,by omega,by simpa using h1,by rw[h2,show j+1+n=j+(n+1)by omega]⟩
   ·rintro⟨n,f,xs,h0,h1,h2⟩
    obtain⟨m,rfl⟩:∃m,n=m+1:=⟨n - 1,by omega⟩
    exact⟨m,f,xs,by simpa using h1,by rw[h2,show j+1+m=j+(m+1)by omega]⟩
  rw[hsh]at ih
  by_cases hl:∃f xs,l= .od f xs
  ·obtain⟨f,xs,rfl⟩:=hl
   simp only[instLeaves,List.mem_cons,ih]
   constructor
   ·rintro(rfl|⟨n,f',xs',h0,h1,h2⟩)
    ·exact⟨0,f,xs,rfl,rfl⟩
    ·exact⟨n,f',xs',h1,h2⟩
   ·rintro⟨n,f',xs',h1,h2⟩
    cases n with
    |zero=>simp at h1;obtain⟨rfl,h⟩:=h1;obtain rfl:=eq_of_heq h;exact .inl h2
    |succ n=>exact .inr ⟨n+1,f',xs',by omega,h1,h2⟩
  ·have e:(instLeaves dst j (l::ls)).2=(instLeaves dst (j+1) ls).2:=by
    cases l<;>simp only[instLeaves]
    exact absurd ⟨_,_,rfl⟩ hl
   rw[e,ih]
   constructor
   ·rintro⟨n,f',xs',h0,h1,h2⟩;exact⟨n,f',xs',h1,h2⟩
   ·rintro⟨n,f',xs',h1,h2⟩
    cases n with
    |zero=>simp at h1;exact absurd ⟨_,_,h1⟩ hl
    |succ n=>exact⟨n+1,f',xs',by omega,h1,h2⟩
theorem inst_all {dst:Option Nat}{R:Nat→A0→Value→Prop}{R':A0→Value→Prop}(h1:∀j f xs v,R j (.od f xs) v→R' (.ow (key dst j)) v)(h2:∀j l v,(∀f xs,l≠ .od f xs)→R j l v→R' l v):
  ∀{j:Nat} {ls:List A0} {vs:List Value},F0 R j ls vs→A7 R' (instLeaves dst j ls).1 vs
 |_,_,_,.nil=> .nil
 |j,l::ls,v::vs,.cons h hs=>by
  have ih:=inst_all h1 h2 hs
  by_cases hl:∃f xs,l= .od f xs
  ·obtain⟨f,xs,rfl⟩:=hl
   exact .cons (h1 j f xs v h) ih
  ·have e:(instLeaves dst j (l::ls)).1=l::(instLeaves dst (j+1) ls).1:=by
    cases l<;>simp only[instLeaves]
    exact absurd ⟨_,_,rfl⟩ hl
   rw[e]
   exact .cons (h2 j l v (fun f xs e=>hl ⟨f,xs,e⟩) h) ih
theorem instTV_leaves (dst:Option Nat)(j:Nat)(x:TV):(instTV dst j x).1.leaves=(instLeaves dst j x.leaves).1∧(instTV dst j x).2=(instLeaves dst j x.leaves).2:=by
 cases x with
 |one l=>cases l<;>simp[instTV,TV.leaves,instLeaves]
 |agg ls=>exact⟨rfl,rfl⟩
theorem instTVs_leaves (dst:Option Nat):∀(xs:List TV) (j:Nat),(instTVs dst j xs).1.flatMap TV.leaves=(instLeaves dst j (xs.flatMap TV.leaves)).1∧(instTVs dst j xs).2=(instLeaves dst j (xs.flatMap TV.leaves)).2
 |[],j=>by simp[instTVs,instLeaves]
 |x::xs,j=>by
  obtain⟨h1,h2⟩:=instTV_leaves dst j x
  obtain⟨h3,h4⟩:=instTVs_leaves dst xs (j+x.leaves.length)
  simp only[instTVs,zV,instLeaves_append]
  exact⟨by rw[h1,h3],by rw[h2,h4]⟩
theorem instAV_leaves (dst:Option Nat)(x:AV):(instAV dst x).1.leaves=(instLeaves dst 0 x.leaves).1∧(instAV dst x).2=(instLeaves dst 0 x.leaves).2:=by
 cases x with
 |v x=>exact instTV_leaves dst 0 x
 |tup xs=>exact instTVs_leaves dst xs 0
theorem A7.split {α β:Type}{R:α→β→Prop}:∀{l1 l2:List α} {m1 m2:List β},l1.length=m1.length→A7 R (l1++l2) (m1++m2)→A7 R l1 m1∧A7 R l2 m2
 |[],l2,[],m2,_,h=>⟨.nil,h⟩
 |[],_,_::_,_,e,_=>by simp at e
 |_::_,_,[],_,e,_=>by simp at e
 |a::l1,l2,b::m1,m2,e,.cons h t=>by
  obtain⟨h1,h2⟩:=A7.split (by simpa using e) t
  exact⟨.cons h h1,h2⟩
theorem instTV_len (dst:Option Nat)(j:Nat)(x:TV):(instTV dst j x).1.leaves.length=x.leaves.length:=by
 rw[(instTV_leaves dst j x).1]
 generalize x.leaves=ls
 induction ls generalizing j with
 |nil=>rfl
 |cons l ls ih=>cases l<;>simp[instLeaves,ih]
theorem F2.len {x:TV}{us:List Value}{v:Value}(h:F2 x us v):us.length=x.leaves.length:=by
 cases x with
 |one l=>simp only[F2]at h;subst h;rfl
 |agg ls=>exact h.2
theorem A1h {h:Array Obj}{dst:Option Nat}{j:Nat}{x:TV}{us:List Value}{v:Value}(hs:F2 x us v)(hl:A7 (A5 X σ h G) (instTV dst j x).1.leaves us):L1 X σ h G (instTV dst j x).1 v:=by
 cases x with
 |one l=>
  simp only[F2]at hs;subst hs
  cases l<;>cases hl with|cons h _=>exact .inr h
 |agg ls=>exact⟨us,hs.1,hl⟩
theorem A6f {h:Array Obj}{dst:Option Nat}:∀{xs:List TV} {j:Nat} {us:List Value} {vs:List Value},E5 xs us vs→A7 (A5 X σ h G) ((instTVs dst j xs).1.flatMap TV.leaves) us→A7 (L1 X σ h G) (instTVs dst j xs).1 vs
 |[],j,us,vs,hs,_=>by obtain⟨_,rfl⟩:=hs;exact .nil
 |x::xs,j,us,vs,hs,hl=>by
  obtain⟨u1,u2,v,vs',rfl,rfl,h1,h2⟩:=hs
  simp only[instTVs,zV]at hl⊢
  obtain⟨h3,h4⟩:=hl.split (by rw[instTV_len,h1.len])
  exact .cons (A1h h1 h3) (A6f h2 h4)
theorem A7u {h:Array Obj}{dst:Option Nat}{x:AV}{us:List Value}{v:Value}(hs:A0v x us v)(hl:A7 (A5 X σ h G) (instAV dst x).1.leaves us):S8 X σ h G (instAV dst x).1 v:=by
 cases x with
 |v x=>exact A1h hs hl
 |tup xs=>obtain⟨vs,e,h⟩:=hs;exact⟨vs,e,A6f h hl⟩
theorem X8:∀{ls:List A0},F5 ls=false→∀l∈ls,∀f xs,l≠ .sh f xs
 |[],_,l,h,_,_=>by simp at h
 |l'::t,h,l,hl,f,xs=>by
  intro e;subst e
  rcases List.mem_cons.mp hl with rfl|hl
  ·simp[F5]at h
  ·have:F5 t=false:=by
    cases l'<;>simp only[F5]at h<;>first|exact h|cases h
   exact X8 this _ hl f xs rfl
theorem Sim.behind (hs:Sim X σ a w G){S:Nat→Prop}{ow0:Nat→Option Nat}{own:List Nat}(how:∀q,ow0 q≠none→∃r∈own,G.rt q=some r)(hlive:∀r∈own,σ.live r)
  {out:AV} {v:Value} (hp:A1l S ow0 w w' false [] out v) (hS:∀q,S q→ow0 q=none) {dst:Option Nat} {τ:St} (hτ:(σ.kill own).addRows (instAV dst out).2=some τ)
  (hI:(F5 out.leaves=true)→∀q,S q→Imm X σ w.heap G q):∃G',Sim X (τ.put dst (instAV dst out).1) (a.put dst v) w' G':=by
 classical
 obtain⟨hos,htape,hout,hsize,hframe,ow1,us,vo,h1,hRL,hall,hshape,hjoin⟩:=hp
 obtain rfl:vo=v:=by
  rcases hjoin with⟨_,h⟩|⟨h,_⟩
  ·exact h
  ·exact absurd rfl h
 obtain⟨k1,k2,k3,k4,k5⟩:=B2 hτ
 rw[(instAV_leaves dst out).2]at k3 k4
 have hrow:∀p,p∈(instLeaves dst 0 out.leaves).2↔∃n f xs,out.leaves[n]?=some (.od f xs)∧p=(key dst n,.data f xs):=by
  intro p;rw[instLeaves_rows];simp
 let isNew:Nat→Prop:=fun r=>∃j,r=key dst j∧∃f xs,out.leaves[j]?=some (.od f xs)
 have hnewl:∀r,isNew r→σ.look r=none∧(σ.kill own).look r=none:=by
  rintro r ⟨j,rfl,f,xs,hj⟩
  have:=(k3 _ ((hrow _).mpr ⟨j,f,xs,hj,rfl⟩)).1
  refine⟨?_,this⟩
  rw[A9]at this
  split at this
  ·cases this
  ·exact this
 have hold:∀r,¬isNew r→τ.look r=if r∈own then some .dead else σ.look r:=by
  intro r hr
  rw[k4 r,A9]
  intro p hp e
  obtain⟨n,f,xs,hn,rfl⟩:=(hrow p).mp hp
  exact hr ⟨n,e.symm,f,xs,hn⟩
 let G':Gh:={
  rt:=fun q=>if q<w.heap.size∧ow0 q=none then(match G.rt q with
    |some r=>if σ.look r=none then none else some r
    |none=>none)else match ow1 q with
    |some j=>if X.deep=true∨∃c m,us.getD j undef= .slice (some ⟨q,0,none⟩) c m then some (key dst j)else none
    |none=>none
  hv:=fun r=>if h:isNew r then us.getD (Classical.choose h) undef else G.hv r}
 have hhv:∀j f xs,out.leaves[j]?=some (.od f xs)→G'.hv (key dst j)=us.getD j undef:=by
  intro j f xs hj
  have hn:isNew (key dst j):=⟨j,rfl,f,xs,hj⟩
  show(if h:isNew (key dst j)then us.getD (Classical.choose h) undef else G.hv (key dst j))=_
  rw[dif_pos hn]
  have:=(Classical.choose_spec hn).1
  rw[←key_inj this]
 have hhv2:∀r,¬isNew r→G'.hv r=G.hv r:=by
  intro r hr
  show(if h:isNew r then us.getD (Classical.choose h) undef else G.hv r)=_
  rw[dif_neg hr]
 have hrtOld:∀q,q<w.heap.size→ow0 q=none→G'.rt q=match G.rt q with
    |some r=>if σ.look r=none then none else some r
    |none=>none:=by
  intro q hq h0
  show(if q<w.heap.size∧ow0 q=none then _ else _)=_
  rw[if_pos ⟨hq,h0⟩]
 have hrtNew:∀q,¬(q<w.heap.size∧ow0 q=none)→G'.rt q=match ow1 q with
    |some j=>if X.deep=true∨∃c m,us.getD j undef= .slice (some ⟨q,0,none⟩) c m then some (key dst j)else none
    |none=>none:=by
  intro q hq
  show(if q<w.heap.size∧ow0 q=none then _ else _)=_
  rw[if_neg hq]
 have hliveOld:∀q r,q<w.heap.size→ow0 q=none→G'.rt q=some r→τ.live r→G.rt q=some r∧σ.live r:=by
  intro q r hq h0 hr hl
  rw[hrtOld q hq h0]at hr
  cases hg:G.rt q with
  |none=>rw[hg]at hr;cases hr
  |some r0=>
   rw[hg]at hr
   dsimp only at hr
   split at hr
   ·cases hr
   ·rename_i hne
    obtain rfl:=oI hr
    refine⟨rfl,?_⟩
    obtain⟨row,h2,h3⟩:=hl
    rw[hold r0 (fun h=>hne (hnewl r0 h).1)]at h2
    split at h2
    ·exact absurd (oI h2).symm h3
    ·exact⟨row,h2,h3⟩
 have hA:∀q,ow0 q≠none→q<X.w0.heap.size→X.A q:=by
  intro q hq hlt
  obtain⟨r,hr,e⟩:=how q hq
  exact hs.ownA q r e (hlive r hr) hlt
 have himmNew:∀q,q<w'.heap.size→(w.heap.size≤q∨ow0 q≠none)→(∀r,G'.rt q=some r→¬τ.live r)→Imm X τ w'.heap G' q:=by
  intro q hq hor hno
  refine⟨hq,?_,hno⟩
  have:=hs.size
  by_cases h:X.w0.heap.size≤q
  ·exact .inr (.inr h)
  ·rcases hor with h'|h'
   ·omega
   ·exact .inr (.inl (hA q h' (by omega)))
 have hstep:Sim X τ a w' G':=by
  refine hs.step k1 k2 hsize hos htape hout (fun q hq hno=>hframe q hq ?_) ?_ ?_ ?_ ?_
  ·cases h0:ow0 q with
   |none=>rfl
   |some j=>
    obtain⟨r,hr,e⟩:=how q (by rw[h0];simp)
    exact absurd (hlive r hr) (hno r e)
  ·intro q r hr hl hq
   cases h0:ow0 q with
   |none=>exact⟨r,hliveOld q r hq h0 hr hl⟩
   |some j=>
    obtain⟨r0,hr0,e⟩:=how q (by rw[h0];simp)
    exact⟨r0,e,hlive r0 hr0⟩
  ·intro q r hr
   by_cases hq:q<w.heap.size∧ow0 q=none
   ·omega
   ·rw[hrtNew q hq]at hr
    cases hg:ow1 q with
    |none=>rw[hg]at hr;cases hr
    |some j=>exact(h1 q j hg).1
  ·intro r row hr
   have:∃row',(σ.kill own).look r=some row':=by
    rw[A9];split
    ·exact⟨_,rfl⟩
    ·exact⟨_,hr⟩
   obtain⟨row',h'⟩:=this
   exact⟨row',k5 r row' h'⟩
  ·intro r row' hr
   by_cases hn:isNew r
   ·right
    have hnl:=(hnewl r hn).1
    obtain⟨j,rfl,f,xs,hj⟩:=hn
    have hr2:τ.look (key dst j)=some (.data f xs):=(k3 _ ((hrow _).mpr ⟨j,f,xs,hj,rfl⟩)).2
    rw[hr2]at hr
    obtain rfl:=oI hr
    refine⟨?_,fun f ls e=>(by cases e),fun row h=>(by rw[hnl]at h;cases h)⟩
    obtain⟨u,hu,hrel⟩:=hall.get hj
    rw[zS]at hrel
    have hgu:us.getD j undef=u:=by simp[List.getD,hu]
    refine A6d hrel (by rw[hhv j f xs hj,hgu]) (fun q hq hor=>?_) (fun hd q hq hor=>?_)
    ·obtain⟨h2,h3⟩:=h1 q j hq
     have:¬(q<w.heap.size∧ow0 q=none):=fun⟨h4,h5⟩=>h3.elim (fun h=>by omega) (fun h=>h h5)
     rw[hrtNew q this,hq]
     dsimp only
     rw[hgu,if_pos hor]
    ·obtain⟨h2,h3⟩:=h1 q j hq
     have:¬(q<w.heap.size∧ow0 q=none):=fun⟨h4,h5⟩=>h3.elim (fun h=>by omega) (fun h=>h h5)
     refine himmNew q h2 h3 fun r hr=>?_
     rw[hrtNew q this,hq]at hr
     dsimp only at hr
     rw[hgu,if_neg (by rw[hd];simp only[Bool.false_eq_true,false_or];exact hor)]at hr
     cases hr
   ·rw[hold r hn]at hr
    split at hr
    ·obtain rfl:=oI hr
     exact .inr ⟨trivial,fun f ls e=>(by cases e),fun row0 h0=>⟨by cases row0<;>trivial,fun h=>absurd rfl h⟩⟩
    ·rename_i hno
     refine .inl ⟨hr,hhv2 r hn,fun _ q hq=>?_⟩
     have hlt:=hs.lt q r hq
     have h0:ow0 q=none:=by
      cases h0:ow0 q with
      |none=>rfl
      |some j=>
       obtain⟨r0,hr0,e⟩:=how q (by rw[h0];simp)
       rw[hq]at e;obtain rfl:=oI e
       exact absurd hr0 hno
     refine⟨?_,hframe q hlt h0⟩
     rw[hrtOld q hlt h0,hq]
     dsimp only
     rw[if_neg (by rw[hr];simp)]
 have hleaves:A7 (A5 X τ w'.heap G') (instLeaves dst 0 out.leaves).1 us:=by
  have hmem:F0 (fun j l v=>(out.leaves[j]?=some l∧us[j]?=some v)∧LA (fun q=>q<w'.heap.size∧(S q∨ow0 q≠none∨w.heap.size≤q)∧ow1 q=none) ow1 w'.heap j l v) 0 out.leaves us:=by
   have:∀{j:Nat} {ls:List A0} {vs:List Value},F0 (LA (fun q=>q<w'.heap.size∧(S q∨ow0 q≠none∨w.heap.size≤q)∧ow1 q=none) ow1 w'.heap) j ls vs→
     (∀n l,ls[n]?=some l→out.leaves[j+n]?=some l)→(∀n l,vs[n]?=some l→us[j+n]?=some l)→
     F0 (fun j l v=>(out.leaves[j]?=some l∧us[j]?=some v)∧LA (fun q=>q<w'.heap.size∧(S q∨ow0 q≠none∨w.heap.size≤q)∧ow1 q=none) ow1 w'.heap j l v) j ls vs:=by
    intro j ls vs h
    induction h with
    |nil=>intro _ _;exact .nil
    |@cons j l v ls vs h _ ih=>
     intro e1 e2
     refine .cons ⟨⟨by simpa using e1 0 l rfl,by simpa using e2 0 v rfl⟩,h⟩ (ih (fun n l' hl=>?_) (fun n l' hl=>?_))
     ·have:=e1 (n+1) l' (by simpa using hl);rwa[show j+1+n=j+(n+1)by omega]
     ·have:=e2 (n+1) l' (by simpa using hl);rwa[show j+1+n=j+(n+1)by omega]
   exact this hall (by simp) (by simp)
  refine inst_all (fun j f xs u hh=>?_) (fun j l u hno hh=>?_) hmem
  ·obtain⟨⟨e1,e2⟩,hc⟩:=hh
   refine⟨A2.one hc,fun f' xs' _=>?_⟩
   rw[hhv j f xs e1];simp[List.getD,e2]
  ·obtain⟨⟨e1,e2⟩,hc⟩:=hh
   have hr:=hRL l (List.mem_of_getElem? e1)
   cases l with
   |int=>exact hc
   |bool=>exact hc
   |str=>exact hc
   |sh f xs=>
    have hsh:F5 out.leaves=true:=by
     cases hb:F5 out.leaves
     ·exact absurd rfl (X8 hb _ (List.mem_of_getElem? e1) f xs)
     ·rfl
    refine A2.mono (fun q hq=>?_) hc
    obtain⟨h2,h3,h4⟩:=hq
    by_cases hin:q<w.heap.size∧ow0 q=none
    ·have hSq:S q:=by
      rcases h3 with h3|h3|h3
      ·exact h3
      ·exact absurd hin.2 h3
      ·omega
     obtain⟨i1,i2,i3⟩:=hI hsh q hSq
     refine⟨h2,i2,fun r hr hl=>?_⟩
     obtain⟨h5,h6⟩:=hliveOld q r hin.1 hin.2 hr hl
     exact i3 r h5 h6
    ·refine himmNew q h2 ?_ fun r hr=>?_
     ·by_cases h:w.heap.size≤q
      ·exact .inl h
      ·exact .inr fun e=>hin ⟨by omega,e⟩
     ·rw[hrtNew q hin,h4]at hr;cases hr
   |od f xs=>exact absurd rfl (hno f xs)
   |undef=>exact hc.elim
   |nil=>exact hc.elim
   |ow=>exact hc.elim
   |sub=>exact hc.elim
   |pa=>exact hc.elim
   |ptr=>exact hc.elim
   |spt=>exact hr.elim
   |clo=>exact hr.elim
 refine⟨G',hstep.put (A7u hshape (by rw[(instAV_leaves dst out).1];exact hleaves)) ?_⟩
 intro r hr
 unfold AV.refs at hr
 rw[(instAV_leaves dst out).1]at hr
 obtain⟨l,hl,hr⟩:=zB1.mp hr
 have:∀(ls:List A0) (us:List Value) (j:Nat),l∈(instLeaves dst j ls).1→(∀l'∈ls,A7c l')→F0 (LA (fun q=>q<w'.heap.size∧(S q∨ow0 q≠none∨w.heap.size≤q)∧ow1 q=none) ow1 w'.heap) j ls us→
   ∃n f xs,ls[n]?=some (.od f xs)∧r=key dst (j+n):=by
  intro ls
  induction ls with
  |nil=>intro us j h _ _;simp[instLeaves]at h
  |cons l' ls ih=>
   intro us j h hR ha
   cases ha with
   |cons h1 h2=>
    have key':l∈(instLeaves dst (j+1) ls).1→∃n f xs,(l'::ls)[n]?=some (.od f xs)∧r=key dst (j+n):=by
     intro hm
     obtain⟨n,f,xs,e1,e2⟩:=ih _ (j+1) hm (fun l'' hl''=>hR l'' (zF _ hl'')) h2
     exact⟨n+1,f,xs,by simpa using e1,by rw[e2,show j+1+n=j+(n+1)by omega]⟩
    have hR':=hR l' (zM ..)
    cases l'<;>simp only[instLeaves,List.mem_cons]at h
    case od f xs=>
     rcases h with rfl|h
     ·simp[A0.refs]at hr;subst hr
      exact⟨0,f,xs,rfl,rfl⟩
     ·exact key' h
    case int=>
      rcases h with rfl|h
      ·simp[A0.refs]at hr
      ·exact key' h
    case bool=>
      rcases h with rfl|h
      ·simp[A0.refs]at hr
      ·exact key' h
    case str=>
      rcases h with rfl|h
      ·simp[A0.refs]at hr
      ·exact key' h
    case sh=>
      rcases h with rfl|h
      ·simp[A0.refs]at hr
      ·exact key' h
    case spt=>exact hR'.elim
    case clo=>exact hR'.elim
    all_goals exact h1.elim
 obtain⟨n,f,xs,e1,rfl⟩:=this _ us 0 hl hRL hall
 rw[zS]
 exact⟨_,(k3 _ ((hrow _).mpr ⟨n,f,xs,e1,rfl⟩)).2⟩
end
end Go.Proofs.Ytalmhjlcjcnidaa.Ev

/- Functions: what is handed back, and the whole: THE EVALUATOR IS SOUND. -/
import Derived.Test.YtalmhjlcjcnidaaEvBody
set_option linter.all false
namespace Go.Proofs.Ytalmhjlcjcnidaa.Ev
open Go
section
variable {P:Program} {E:Env} {X:Ctx} {σ σ':St} {a:Act} {w w':World} {G:Gh}
theorem A9m (hE:B4 P E)(hs:Sim X σ a w G){x:ResultVar}{y:TV}(h:A3p E X.deep σ x=some y):
  ∃v,((match x with
   | .tmp t=>pure (a.tmps.getD t undef)
   | .cell b t=>do loadVar t (←asAddr (a.tmps.getD b undef)):Sem Value)).run P w= .ok v w∧L1 X σ w.heap G y v∧y≠ .one .undef:=by
 cases x with
 |tmp t=>
  simp only[A3p]at h
  refine⟨a.tmps.getD t undef,by simp,(hs.evT h).1,?_⟩
  rintro rfl
  unfold St.evT at h
  split at h
  ·cases h
  ·obtain rfl:=oI h
   rename_i h1 h2
   exact h1 rfl
  ·cases h
 |cell b t=>
  simp only[A3p]at h
  obtain⟨z,hz,h⟩:=oB h
  split at h
  ·cases h
  ·rename_i hne
   obtain rfl:=oI h
   obtain⟨v,q,e,h1,h2,h3⟩:=hs.loadT hE hz
   refine⟨v,?_,h2,hne⟩
   have e':a.tmps.getD b undef= .pointer (some q):=e
   simp[e',asAddr,h1]
theorem A22 (hE:B4 P E)(hs:Sim X σ a w G):∀{l:List ResultVar} {ys:List TV},l.mapM (A3p E X.deep σ)=some ys→
  ∃vs,(l.mapM fun x=>(match x with
   | .tmp t=>pure (a.tmps.getD t undef)
   | .cell b t=>do loadVar t (←asAddr (a.tmps.getD b undef)):Sem Value)).run P w= .ok vs w∧A7 (L1 X σ w.heap G) ys vs∧∀y∈ys,y≠ .one .undef
 |[],ys,h=>by simp at h;subst h;exact⟨[],by simp,.nil,by simp⟩
 |x::l,ys,h=>by
  rw[List.mapM_cons]at h
  obtain⟨y,hy,h⟩:=oB h
  obtain⟨ys',hys,h⟩:=oB h
  obtain rfl:=oI h
  obtain⟨v,h1,h2,h5⟩:=A9m hE hs hy
  obtain⟨vs,h3,h4,h6⟩:=A22 hE hs hys
  refine⟨v::vs,?_,.cons h2 h4,?_⟩
  ·rw[List.mapM_cons]
   simp only[Sem.run_bind,h1,Result.andThen_ok,h3,Sem.run_pure]
  ·intro z hz
   rcases List.mem_cons.mp hz with rfl|hz
   ·exact h5
   ·exact h6 z hz
def G6 (deep:Bool)(σ:St):Nat→List A0→List (Nat×Nat)
 |_,[]=>[]
 |j,.ow r::t=>(match σ.look r with
   |some (.data f _)=>bif deep||f.flat then [(r,j)]else []
   |_=>[])++G6 deep σ (j+1) t
 |j,.sub r off _::t=>(match σ.look r with
   |some (.data f _)=>bif(deep||f.flat)&&Nat.beq off 0 then [(r,j)]else []
   |_=>[])++G6 deep σ (j+1) t
 |j,_::t=>G6 deep σ (j+1) t
theorem A25 (deep:Bool):∀(ls:List A0) (j:Nat),(G6 deep σ j ls).map (·.1)=E1 deep σ ls
 |[],_=>rfl
 |l::t,j=>by
  have ih:=A25 deep t (j+1)
  cases l<;>simp only[G6,E1,ih]
  ·rename_i r
   rw[List.map_append,ih]
   congr 1
   cases hr:σ.look r with
   |none=>rfl
   |some row=>
    cases row with
    |data f xs=>cases hd:deep||f.flat<;>simp[hd]
    |dead=>rfl
    |hol=>rfl
    |box=>rfl
  ·rename_i r off len
   rw[List.map_append,ih]
   congr 1
   cases hr:σ.look r with
   |none=>rfl
   |some row=>
    cases row with
    |data f xs=>cases hd:(deep||f.flat)&&Nat.beq off 0<;>simp[hd]
    |dead=>rfl
    |hol=>rfl
    |box=>rfl
theorem A26 {deep:Bool}:∀(ls:List A0) (j n r:Nat) (f:Kd) (xs:List f.T),ls[n]?=some (.ow r)→σ.look r=some (.data f xs)→(deep||f.flat)=true→(r,j+n)∈G6 deep σ j ls
 |[],j,n,r,f,xs,h,_,_=>by simp at h
 |l::t,j,0,r,f,xs,h,hr,hf=>by
  simp at h;subst h
  simp only[G6,hr,hf,zB,zY]
  exact .inl (by simp)
 |l::t,j,n+1,r,f,xs,h,hr,hf=>by
  have ih:=A26 t (j+1) n r f xs (by simpa using h) hr hf
  rw[show j+1+n=j+(n+1)by omega]at ih
  cases l<;>simp only[G6]<;>try exact ih
  ·exact zA1 _ ih
  ·exact zA1 _ ih
theorem A27 {deep:Bool}:∀(ls:List A0) (j n r len:Nat) (f:Kd) (xs:List f.T),ls[n]?=some (.sub r 0 len)→σ.look r=some (.data f xs)→(deep||f.flat)=true→(r,j+n)∈G6 deep σ j ls
 |[],j,n,r,len,f,xs,h,_,_=>by simp at h
 |l::t,j,0,r,len,f,xs,h,hr,hf=>by
  simp at h;subst h
  simp only[G6,hr,hf,Nat.beq,Bool.and_self,zG1,zB,zY]
  exact .inl (by simp)
 |l::t,j,n+1,r,len,f,xs,h,hr,hf=>by
  have ih:=A27 t (j+1) n r len f xs (by simpa using h) hr hf
  rw[show j+1+n=j+(n+1)by omega]at ih
  cases l<;>simp only[G6]<;>try exact ih
  ·exact zA1 _ ih
  ·exact zA1 _ ih
theorem N5 {deep:Bool}:∀(ls:List A0) (j r k:Nat),(r,k)∈G6 deep σ j ls→∃f xs,σ.look r=some (.data f xs)∧(deep||f.flat)=true
 |[],j,r,k,h=>by simp[G6]at h
 |l::t,j,r,k,h=>by
  cases l<;>simp only[G6]at h<;>try exact N5 t (j+1) r k h
  ·rename_i r'
   rcases zY.mp h with h|h
   ·split at h
    ·rename_i f xs hr
     cases hd:deep||f.flat<;>simp only[hd,zB,zA]at h
     ·simp at h
     ·simp at h;obtain⟨rfl,_⟩:=h;exact⟨f,xs,hr,hd⟩
    ·simp at h
   ·exact N5 t (j+1) r k h
  ·rename_i r' off len
   rcases zY.mp h with h|h
   ·split at h
    ·rename_i f xs hr
     cases hd:(deep||f.flat)&&Nat.beq off 0<;>simp only[hd,zB,zA]at h
     ·simp at h
     ·simp only[zJ]at hd
      simp at h;obtain⟨rfl,_⟩:=h;exact⟨f,xs,hr,hd.1⟩
    ·simp at h
   ·exact N5 t (j+1) r k h
theorem A6c {f:A0→Option A0}{R:A0→Value→Prop}{R':Nat→A0→Value→Prop}{T:TV→Value→Prop}(hT:∀x v,T x v→x≠ .one .undef→(∃l,x= .one l∧R l v)∨∃ls vs,x= .agg ls∧v= .agg (List.toArray vs)∧A7 R ls vs):
  ∀{xs ys:List TV} {vs:List Value} {j:Nat},xs.mapM (TV.mapM f)=some ys→A7 T xs vs→(∀x∈xs,x≠ .one .undef)→
  (∀n l m v,(xs.flatMap TV.leaves)[n]?=some l→f l=some m→R l v→R' (j+n) m v)→∃us,F0 R' j (ys.flatMap TV.leaves) us∧E5 ys us vs
 |[],ys,vs,j,h,ha,_,_=>by simp at h;subst h;cases ha;exact⟨[],.nil,rfl,rfl⟩
 |x::xs,ys,vs,j,h,ha,hne,hR=>by
  rw[List.mapM_cons]at h
  obtain⟨y,hy,h⟩:=oB h
  obtain⟨ys',hys,h⟩:=oB h
  obtain rfl:=oI h
  cases ha with
  |@cons _ v _ vs' h1 h2=>
   simp only[zV]at hR⊢
   have hy':y.leaves.length=x.leaves.length∧∃us,F0 R' j y.leaves us∧F2 y us v:=by
    rcases hT x v h1 (hne x (zM ..))with⟨l,rfl,hl⟩|⟨ls,ws,rfl,rfl,hl⟩
    ·obtain⟨m,hm,rfl⟩:=oM hy
     refine⟨rfl,[v],.cons ?_ .nil,rfl⟩
     have:=hR 0 l m v (by simp[TV.leaves]) hm hl
     simpa using this
    ·obtain⟨ms,hm,rfl⟩:=oM hy
     refine⟨mapM_length hm,ws,X9 hm hl fun n l m v h3 h4 h5=>hR n l m v ?_ h4 h5,rfl,by rw[←hl.length,mapM_length hm]⟩
     rw[List.getElem?_append_left (by simp only[TV.leaves];exact(List.getElem?_eq_some_iff.mp h3).1)];exact h3
   obtain⟨hyl,us,h3,h4⟩:=hy'
   obtain⟨us',h5,h6⟩:=A6c hT (j:=j+x.leaves.length) hys h2 (fun z hz=>hne z (zF _ hz)) fun n l m v h7 h8 h9=>by
    have:=hR (x.leaves.length+n) l m v (by rw[List.getElem?_append_right (by omega),Nat.add_sub_cancel_left];exact h7) h8 h9
    rwa[←Nat.add_assoc]at this
   exact⟨us++us',h3.append (by rw[hyl];exact h5),us,us',v,vs',rfl,rfl,h4,h6⟩
theorem A61:∀ys:List TV,(A2n ys).leaves=ys.flatMap TV.leaves
 |[]=>rfl
 |[y]=>by simp[A2n,AV.leaves]
 |_::_::_=>rfl
theorem E5.len:∀{ys:List TV} {us vs:List Value},E5 ys us vs→ys.length=vs.length
 |[],us,vs,h=>by obtain⟨_,rfl⟩:=h;rfl
 |y::ys,us,vs,h=>by
  obtain⟨u1,u2,v,vs',rfl,rfl,h1,h2⟩:=h
  simp[E5.len h2]
def T7:Nat→List A0→List (Nat×Nat)
 |_,[]=>[]
 |n,.ptr r _ _::t=>(r,n)::T7 (n+1) t
 |n,_::t=>T7 (n+1) t
theorem A0f:∀(ls:List A0) (n:Nat),(T7 n ls).map (·.1)=R5 ls
 |[],_=>rfl
 |l::t,n=>by cases l<;>simp[T7,R5,A0f t (n+1)]
theorem A20 (hs:Sim X σ a w G){ow1:Nat→Option Nat}:∀{ls:List A0} {ps:List TV} {pv:List Value} {n:Nat},ls.mapM (A7p σ)=some ps→A7 (A5 X σ w.heap G) ls pv→
  (∀b r k,G.rt b=some r→(r,k)∈T7 n ls→ow1 b=some k)→(∃cs,A7 (L1 X σ w.heap G) ps cs∧(∀y∈ps,y≠ .one .undef)∧A0w w.heap ow1 n pv cs)∧∀r k,(r,k)∈T7 n ls→∃f zs,σ.look r=some (.box f zs)
 |[],ps,pv,n,h,hl,_=>by simp at h;subst h;cases hl;exact⟨⟨[],.nil,by simp,rfl⟩,fun r k h=>by simp[T7]at h⟩
 |l::ls,ps,pv,n,h,hl,how=>by
  rw[List.mapM_cons]at h
  obtain⟨y,hy,h⟩:=oB h
  obtain⟨ys',hys,h⟩:=oB h
  obtain rfl:=oI h
  cases hl with
  |@cons _ v _ vs h1 h2=>
   obtain⟨⟨cs,i1,i2,i3⟩,i4⟩:=A20 hs (n:=n+1) hys h2 fun b r k hb hk=>how b r k hb (by cases l<;>simp only[T7]<;>first|exact hk|exact zF _ hk)
   cases l<;>simp only[A7p]at hy<;>try (cases hy;done)
   case ow r=>
    split at hy
    ·rename_i f xs hr
     obtain rfl:=oI hy
     refine⟨⟨v::cs,.cons (.inr h1) i1,fun y hy=>?_,v,cs,rfl,i3,.inl ⟨?_,rfl⟩⟩,i4⟩
     ·rcases List.mem_cons.mp hy with rfl|hy
      ·simp
      ·exact i2 y hy
     ·rw[h1.2 f xs (St.dat_of hr)]
      rcases hs.row r _ hr with⟨_,e⟩|⟨b,cap,arr,e,fr,ow,d1,_⟩
      ·exact⟨_,_,_,e⟩
      ·exact⟨_,_,_,d1⟩
    ·cases hy
   case ptr r i c=>
    split at hy
    ·rename_i e;cases e
    ·rename_i r' e
     cases e
     split at hy
     ·rename_i f zs hr
      obtain rfl:=oI hy
      obtain⟨b,arr,e,fr,d1,d2,d3,d4,d5,d6⟩:=hs.row _ _ hr
      obtain⟨b',q1,q2⟩:=h1.2.2 f zs hr
      rw[d1]at q1;simp at q1;subst q1
      refine⟨⟨.agg arr::cs,.cons ⟨arr.toList,by simp,d6⟩ i1,fun y hy=>?_,.agg arr,cs,rfl,i3,.inr ⟨b,arr,e,fr,q2,d3,d4,rfl,how b _ n d2 (zM ..)⟩⟩,fun r k hk=>?_⟩
      ·rcases List.mem_cons.mp hy with rfl|hy
       ·simp
       ·exact i2 y hy
      ·rcases List.mem_cons.mp hk with e|hk
       ·cases e;exact⟨f,zs,hr⟩
       ·exact i4 r k hk
     ·cases hy
    ·cases hy
theorem A4c {l:List (Nat×Nat)}{r k:Nat}:look r l=some k→(r,k)∈l:=by
 induction l with
 |nil=>intro h;cases h
 |cons p t ih=>
  obtain⟨r',k'⟩:=p
  intro h
  simp only[look]at h
  cases hb:Nat.beq r' r<;>simp only[hb,zB,zA]at h
  ·exact zF _ (ih h)
  ·obtain rfl:=oI h
   rw[zN hb];exact zM ..
theorem A6b (hE:B4 P E){deep:Bool}{w0:World}{S:Nat→Prop}{ow0:Nat→Option Nat}{pv:List Value}(hs:Sim ⟨deep,w0,S,fun q=>ow0 q≠none,pv⟩ σ a w G)(hSz:∀q,S q→q<w0.heap.size∧ow0 q=none)
  {fn:Func} {out:AV} (h:A6a E deep fn σ=some out):∃v,(results fn a.tmps).run P w= .ok v w∧A1l S ow0 w0 w false pv out v:=by
 unfold A6a at h
 obtain⟨rs,hrs,h⟩:=oB h
 obtain⟨ps,hps,h⟩:=oB h
 generalize hxs:rs++ps=xs at h
 cases hd:distinct (E1 deep σ (xs.flatMap TV.leaves))&&distinct (R5 σ.pins)<;>simp only[hd,zB,zA]at h
 ·cases h
 simp only[zJ]at hd
 obtain⟨hd,hdb⟩:=hd
 obtain⟨ys,hys,h⟩:=oB h
 obtain⟨vs,h1,h2,h3⟩:=A22 (X:=⟨deep,w0,S,fun q=>ow0 q≠none,pv⟩) hE hs hrs
 have hfst:=A25 (σ:=σ) deep (xs.flatMap TV.leaves) 0
 let N:=(ys.flatMap TV.leaves).length
 let idx:=G6 deep σ 0 (xs.flatMap TV.leaves)
 let bidx:=T7 N σ.pins
 let at':Nat→Option Nat:=fun r=>match look r idx with
  |some k=>some k
  |none=>look r bidx
 let ow1:Nat→Option Nat:=fun q=>(G.rt q).bind at'
 have hidx:∀r,look r idx≠none→∃f zs,σ.look r=some (.data f zs)∧(deep||f.flat)=true:=by
  intro r hr
  obtain⟨k,hk⟩:=Option.ne_none_iff_exists'.mp hr
  exact N5 _ _ _ _ (A4c hk)
 obtain⟨_,hbx⟩:=A20 (ow1:=fun b=>(G.rt b).bind fun r=>look r bidx) hs (n:=N) hps hs.pin fun b r k hb hk=>by
  show(G.rt b).bind _=_
  rw[hb,zC]
  exact H6 (by rw[A0f];exact hdb) hk
 have hbidx:∀r,look r bidx≠none→∃f zs,σ.look r=some (.box f zs):=by
  intro r hr
  obtain⟨k,hk⟩:=Option.ne_none_iff_exists'.mp hr
  exact hbx r k (A4c hk)
 obtain⟨⟨cs,p1,p2,p3⟩,_⟩:=A20 (ow1:=ow1) hs (n:=N) hps hs.pin fun b r k hb hk=>by
  show(G.rt b).bind at'=_
  rw[hb,zC]
  have hlk:=H6 (idx:=bidx) (by rw[A0f];exact hdb) hk
  show(match look r idx with|some k=>some k|none=>look r bidx)=_
  cases hi:look r idx with
  |none=>exact hlk
  |some k'=>
   obtain⟨f,zs,e1,_⟩:=hidx r (by rw[hi];simp)
   obtain⟨f',zs',e2⟩:=hbx r k hk
   rw[e1]at e2;cases e2
 have hat:∀r,at' r≠none→σ.live r:=by
  intro r hr
  cases hi:look r idx with
  |some k=>
   obtain⟨f,zs,e1,_⟩:=hidx r (by rw[hi];simp)
   exact⟨_,e1,by simp⟩
  |none=>
   have:look r bidx≠none:=by
    intro e
    apply hr
    show(match look r idx with|some k=>some k|none=>look r bidx)=none
    rw[hi];exact e
   obtain⟨f,zs,e2⟩:=hbidx r this
   exact⟨_,e2,by simp⟩
 have hatD:∀r f zs,σ.look r=some (.data f zs)→at' r=look r idx:=by
  intro r f zs hr
  show(match look r idx with|some k=>some k|none=>look r bidx)=_
  cases hi:look r idx with
  |some k=>rfl
  |none=>
   cases hb:look r bidx with
   |none=>rfl
   |some k=>
    obtain⟨f',zs',e2⟩:=hbidx r (by rw[hb];simp)
    rw[hr]at e2;cases e2
 have hbound:∀q r,G.rt q=some r→σ.live r→q<w.heap.size∧(w0.heap.size≤q∨ow0 q≠none):=by
  intro q r hq hl
  refine⟨hs.lt q r hq,?_⟩
  by_cases h:w0.heap.size≤q
  ·exact .inl h
  ·exact .inr (hs.ownA q r hq hl (by show q<w0.heap.size;omega))
 have how1:∀q j,ow1 q=some j→q<w.heap.size∧(w0.heap.size≤q∨ow0 q≠none):=by
  intro q j hq
  obtain⟨r,hr,hk⟩:=oB hq
  exact hbound q r hr (hat r (by rw[hk];simp))
 let S':Nat→Prop:=fun q=>q<w.heap.size∧(S q∨ow0 q≠none∨w0.heap.size≤q)∧ow1 q=none
 have hI:∀q,Imm ⟨deep,w0,S,fun q=>ow0 q≠none,pv⟩ σ w.heap G q→S' q:=by
  rintro q ⟨i1,i2,i3⟩
  refine⟨i1,i2,?_⟩
  show(G.rt q).bind _=none
  cases hg:G.rt q with
  |none=>rfl
  |some r=>
   rw[zC]
   cases hk:at' r with
   |none=>rfl
   |some k=>exact absurd (hat r (by rw[hk];simp)) (i3 r hg)
 have hSr:∀r f zs,σ.look r=some (.data f zs)→look r idx=none→∀q,G.rt q=some r→S' q:=by
  intro r f zs hl hn q hq
  obtain⟨b1,b2⟩:=hbound q r hq ⟨_,hl,by simp⟩
  refine⟨b1,.inr b2.symm,?_⟩
  show(G.rt q).bind _=none
  rw[hq,zC,hatD r f zs hl,hn]
 have hleaf:∀n l m v,(xs.flatMap TV.leaves)[n]?=some l→A1c deep (E1 deep σ (xs.flatMap TV.leaves)) σ l=some m→A5 ⟨deep,w0,S,fun q=>ow0 q≠none,pv⟩ σ w.heap G l v→A7c m∧LA S' ow1 w.heap n m v:=by
  intro n l m v hn hm hl
  cases l<;>simp only[A1c]at hm<;>try (cases hm;done)
  case int=>obtain rfl:=oI hm;exact⟨trivial,hl⟩
  case bool=>obtain rfl:=oI hm;exact⟨trivial,hl⟩
  case str=>obtain rfl:=oI hm;exact⟨trivial,hl⟩
  case sh=>obtain rfl:=oI hm;exact⟨trivial,A2.mono hI hl⟩
  case ow r=>
   split at hm
   ·rename_i f zs hr
    rw[hl.2 f zs (St.dat_of hr)]
    cases hf:deep||f.flat<;>simp only[hf,zB,zA]at hm
    ·obtain rfl:=oI hm
     have hn':look r idx=none:=by
      cases hk:look r idx with
      |none=>rfl
      |some k=>
       obtain⟨f',zs',hlk,hf'⟩:=hidx r (by rw[hk];simp)
       rw[hr]at hlk;simp at hlk
       obtain⟨rfl,_⟩:=hlk
       rw[hf]at hf';cases hf'
     exact⟨trivial,A1d (hs.row r _ hr) (hSr r f zs hr hn') hI⟩
    ·obtain rfl:=oI hm
     refine⟨trivial,A78 (hs.row r _ hr) hf fun q hq=>?_⟩
     show(G.rt q).bind _=some n
     rw[hq,zC,hatD r f zs hr]
     have:=A26 (deep:=deep) (xs.flatMap TV.leaves) 0 n r f zs hn hr hf
     rw[zS]at this
     exact H6 (by rw[hfst];exact hd) this
   ·cases hm
  case sub r off len=>
   split at hm
   ·rename_i f zs hr
    cases hof:(deep||f.flat)&&Nat.beq off 0<;>simp only[hof,zB,zA]at hm
    ·cases hb:E6 r (E1 deep σ (xs.flatMap TV.leaves))<;>simp only[hb,zB,zA]at hm
     ·simp only[H3,hr]at hm
      obtain rfl:=oI hm
      have hn':look r idx=none:=A4d fun hc=>by
       rw[hfst]at hc
       rw[D6.mpr hc]at hb;cases hb
      exact⟨trivial,A5b (hs.row r _ hr) hr hl (hSr r f zs hr hn') hI⟩
     ·cases hm
    ·obtain rfl:=oI hm
     simp only[zJ]at hof
     obtain rfl:=zN hof.2
     obtain⟨hle,_,hhd⟩:=hl.2 f zs (St.dat_of hr)
     refine⟨trivial,A8d (hs.row r _ hr) hof.1 (fun q hq=>?_) (by omega) (hhd rfl)⟩
     show(G.rt q).bind _=some n
     rw[hq,zC,hatD r f zs hr]
     have:=A27 (deep:=deep) (xs.flatMap TV.leaves) 0 n r len f zs hn hr hof.1
     rw[zS]at this
     exact H6 (by rw[hfst];exact hd) this
   ·cases hm
 have h2':A7 (L1 ⟨deep,w0,S,fun q=>ow0 q≠none,pv⟩ σ w.heap G) xs (vs++cs):=by rw[←hxs];exact A7.app h2 p1
 have h3':∀y∈xs,y≠ .one .undef:=by
  intro y hy
  rw[←hxs]at hy
  rcases zY.mp hy with hy|hy
  ·exact h3 y hy
  ·exact p2 y hy
 obtain⟨us,h4,h5⟩:=A6c (R:=A5 ⟨deep,w0,S,fun q=>ow0 q≠none,pv⟩ σ w.heap G) (R':=fun j l v=>A7c l∧LA S' ow1 w.heap j l v) (T:=L1 ⟨deep,w0,S,fun q=>ow0 q≠none,pv⟩ σ w.heap G) (j:=0) (fun x v hx hne=>by
  cases x with
  |one l=>
   rcases hx with rfl|hx
   ·exact absurd rfl hne
   ·exact .inl ⟨l,rfl,hx⟩
  |agg ls=>obtain⟨vs,e,h⟩:=hx;exact .inr ⟨ls,vs,rfl,e,h⟩) hys h2' h3' (fun n l m v e1 e2 e3=>by rw[zS];exact hleaf n l m v e1 e2 e3)
 have hrun:(results fn a.tmps).run P w= .ok (A76 vs) w:=by
  unfold results
  rw[Array.mapM_eq_mapM_toList]
  simp only[Sem.run_bind,bind_map_left]
  refine(congrArg (fun r:Result (List Value)=>r.andThen _) h1).trans ?_
  simp[Result.andThen,A76]
 have hol:out.leaves=ys.flatMap TV.leaves:=by
  obtain rfl:=oI h
  split
  ·exact A61 ys
  ·rfl
 refine⟨_,hrun,hs.os,hs.tape,hs.output,hs.size,fun q hq h0=>hs.frame q hq (by simpa using h0),ow1,us,if pv=[]then A76 vs else .tuple (vs++cs).toArray,how1,?_,?_,?_,?_⟩
 ·intro l hl
  rw[hol]at hl
  obtain⟨n,hn⟩:=List.getElem?_of_mem hl
  obtain⟨v,_,hv⟩:=h4.get hn
  exact hv.1
 ·rw[hol]
  exact h4.mono fun j l v h=>h.2
 ·obtain rfl:=oI h
  have hpin:=hs.pin
  generalize σ.pins=pins at hpin p3 hps
  cases hpin with
  |nil=>
   simp only[A0w]at p3
   subst p3
   rw[if_pos rfl]
   simp only[zH1]at h5
   have hlen:=h5.len
   show A0v (A2n ys) us (A76 vs)
   unfold A76
   cases ys with
   |nil=>
    rw[dif_neg (by rw[←hlen];simp)]
    exact⟨vs,rfl,h5⟩
   |cons y ys=>
    cases ys with
    |nil=>
     obtain⟨u1,u2,v,vs',rfl,rfl,h6,rfl,rfl⟩:=h5
     rw[zH1]
     exact h6
    |cons y' ys=>
     rw[dif_neg (by rw[←hlen];simp)]
     exact⟨vs,rfl,h5⟩
  |cons hp1 hp2=>
   rw[if_neg (by simp)]
   exact⟨_,rfl,h5⟩
 ·have hpin:=hs.pin
  by_cases hpv:pv=[]
  ·exact .inl ⟨hpv,by rw[if_pos hpv]⟩
  ·refine .inr ⟨hpv,ys,vs,cs,?_,rfl,by rw[if_neg hpv],by rw[hol];exact p3⟩
   obtain rfl:=oI h
   split
   ·rename_i e
    rw[e]at hpin
    have hpin':A7 (A5 ⟨deep,w0,S,fun q=>ow0 q≠none,pv⟩ σ w.heap G) [] pv:=hpin
    cases hpin'
    exact absurd rfl hpv
   ·rfl
theorem A8b (hE:B4 P E){deep:Bool}{w0:World}{S:Nat→Prop}{ow0:Nat→Option Nat}{pv:List Value}(hs:Sim ⟨deep,w0,S,fun q=>ow0 q≠none,pv⟩ σ a w G)(hSz:∀q,S q→q<w0.heap.size∧ow0 q=none)
  {fn:Func} {f:Kd} {out:AV} (h:A58 E deep f fn σ=some out):∃v,(results fn a.tmps).run P w= .ok v w∧A1l S ow0 w0 w true pv out v:=by
 unfold A58 at h
 obtain⟨rs,hrs,h⟩:=oB h
 obtain⟨vs,h1,h2,h3⟩:=A22 (X:=⟨deep,w0,S,fun q=>ow0 q≠none,pv⟩) hE hs hrs
 split at h
 ·rename_i r hpins
  split at h
  ·rename_i g ls hr
   cases hc:decide (g=f)&&distinct (E1 deep σ ls)<;>simp only[hc,zB,zA]at h
   ·cases h
   simp only[zJ]at hc
   obtain⟨ms,hms,rfl⟩:=oM h
   have hp:=hs.pin
   rw[hpins]at hp
   have hpv:pv=[]:=by
    have hp':A7 (A5 ⟨deep,w0,S,fun q=>ow0 q≠none,pv⟩ σ w.heap G) [] pv:=hp
    cases hp';rfl
   subst hpv
   cases h2 with
   |@cons _ v _ vs' h2 h4=>
   cases h4
   have hl:A5 ⟨deep,w0,S,fun q=>ow0 q≠none,[]⟩ σ w.heap G (.ptr r 0 0) v:=by
    rcases h2 with h2|h2
    ·exact absurd h2 (by simp)
    ·exact h2
   obtain⟨b,arr,e,fr,d1,d2,d3,d4,d5,d6⟩:=hs.row _ _ hr
   obtain⟨b',q1,q2⟩:=hl.2.2 g ls hr
   rw[d1]at q1;simp at q1;subst q1
   have hs':Sim ⟨deep,w0,S,fun q=>ow0 q≠none,[v]⟩ {σ with pins:=[.ptr r 0 0]} a w G:=by
    constructor
    case defs=>exact hs.defs
    case len=>exact hs.len
    case slot=>
     intro i hi
     have h:=hs.slot i hi
     show S8 ⟨deep,w0,S,fun q=>ow0 q≠none,[v]⟩ {σ with pins:=[.ptr r 0 0]} w.heap G (σ.slots.getD i A1) (a.tmps.getD i undef)
     revert h
     generalize σ.slots.getD i A1=av
     intro h
     cases av with
     |v x=>cases x<;>exact h
     |tup ys=>exact h
    case row=>intro r' row h';cases row<;>exact hs.row r' _ h'
    case pin=>exact .cons hl .nil
    case lt=>exact hs.lt
    case ownA=>exact hs.ownA
    case size=>exact hs.size
    case frame=>exact hs.frame
    case os=>exact hs.os
    case tape=>exact hs.tape
    case output=>exact hs.output
    case refs=>exact hs.refs
    case prefs=>
     intro l hl' r' hr'
     have e:l= .ptr r 0 0:=by simpa using hl'
     subst e
     have e:r'=r:=by simpa[A0.refs]using hr'
     subst e
     exact⟨_,hr⟩
    case rrefs=>exact hs.rrefs
   obtain⟨v',hv',hpost⟩:=A6b (fn:={fn with results:=#[]}) (out:= .tup [.agg ms]) hE hs' hSz (by
    unfold A6a
    have hr':St.look {σ with pins:=[.ptr r 0 0]} r=some (.box g ls):=hr
    have hb:∀ls,E1 deep {σ with pins:=[.ptr r 0 0]} ls=E1 deep σ ls:=by
     intro ls
     induction ls with
     |nil=>rfl
     |cons l t ih=>cases l<;>simp only[E1,ih]<;>rfl
    have hd:distinct (E1 deep {σ with pins:=[.ptr r 0 0]} ls)=true:=by rw[hb];exact hc.2
    have hm:ls.mapM (A1c deep (E1 deep {σ with pins:=[.ptr r 0 0]} ls) {σ with pins:=[.ptr r 0 0]})=some ms:=by
     rw[hb,←hms]
     congr 1
    simp[A7p,hr',TV.leaves,hd,R5,distinct,TV.mapM,hm,E6])
   refine⟨v,?_,hpost.os,hpost.tape,hpost.output,hpost.size,hpost.frame,?_⟩
   ·unfold results
    rw[Array.mapM_eq_mapM_toList]
    simp only[Sem.run_bind,bind_map_left]
    refine(congrArg (fun r:Result (List Value)=>r.andThen _) h1).trans ?_
    simp[Result.andThen]
   ·obtain⟨ow1,us,vo,k1,k2,k3,k4,k5⟩:=hpost.ret
    refine⟨ow1,us,vo,k1,k2,k3,k4,rfl,?_⟩
    rcases k5 with⟨k5,_⟩|⟨_,ys,rs',cs,k6,k7,k8,k9⟩
    ·cases k5
    ·subst k8
     obtain⟨ws,e1,e2⟩:=k4
     have e3:=e2.len
     obtain⟨c,cs',rfl,e4,_⟩:=k9
     have e4:cs'=[]:=e4
     subst e4
     have e5:ws=rs'++[c]:=by
      have:=Value.tuple.inj e1
      simpa using congrArg Array.toList this.symm
     subst e5
     simp at e3
     obtain rfl:rs'=[]:=by
      cases rs' with
      |nil=>rfl
      |cons=>simp at e3
     exact⟨ys,[c],b,k6,q2,rfl,c,[],rfl,rfl,by assumption⟩
  ·cases h
 ·cases h
structure A7f (E:Env) (C:CF) (n g:Nat) {T:Type} (W:Tab T) (U:AV→Option T):Prop where
 zero:∀q∈W,∀js σ,q.2 (0::js) σ=none
 turn:∀q∈W,∀js j σ r,q.2 ((j+1)::js) σ=some r→A3u E C n g W U q.1 js j σ=some r
theorem B0e {C:CF}{d:Bool}{R:Type}{ks:List (Nat×U8)}{n:Nat}{W:Orc R}{c:Code}{κ0 κ:Ex→St→Option R}:∀{p:List Dir} {js:List Nat} {y z:Code},L2 c p=some y→partAt E C d ks n W c κ0 p js=some (z,κ)→z=y∧κ=κ0∧js=[]∧A9u p
 |[],[],y,z,h1,h2=>by
  simp only[L2,partAt]at h1 h2
  cases h1;cases h2
  exact⟨rfl,rfl,rfl,fun _ h=>by cases h⟩
 |[],_::_,y,z,h1,h2=>by simp only[partAt]at h2;cases h2
 | .r::p,js,y,z,h1,h2=>by
  simp only[L2]at h1
  split at h1
  ·rename_i x b hx
   obtain rfl:=oI h1
   simp only[partAt]at h2
   split at h2
   ·rename_i x2 y2 κ2 h3
    obtain⟨e1,e2,e3,e4⟩:=B0e hx h3
    cases h2
    cases e1
    exact⟨rfl,e2,e3,fun d hd=>by
     rcases List.mem_cons.mp hd with rfl|hd
     ·rfl
     ·exact e4 d hd⟩
   ·cases h2
  ·cases h1
 | .l::_,_,_,_,h1,_=>by simp only[L2]at h1;cases h1
 | .t::_,_,_,_,h1,_=>by simp only[L2]at h1;cases h1
 | .f::_,_,_,_,h1,_=>by simp only[L2]at h1;cases h1
 | .b::_,_,_,_,h1,_=>by simp only[L2]at h1;cases h1
 | .p::_,_,_,_,h1,_=>by simp only[L2]at h1;cases h1
theorem A65 {C:CF}{d:Bool}{R:Type}{ks:List (Nat×U8)}{n:Nat}{W:Orc R}{c:Code}{κ0:Ex→St→Option R}:∀{p:List Dir} {y:Code},L2 c p=some y→partAt E C d ks n W c κ0 p []=some (y,κ0)
 |[],y,h1=>by simp only[L2]at h1;cases h1;rfl
 | .r::p,y,h1=>by
  simp only[L2]at h1
  split at h1
  ·rename_i x b hx
   obtain rfl:=oI h1
   simp only[partAt,A65 hx]
  ·cases h1
 | .l::_,_,h1=>by simp only[L2]at h1;cases h1
 | .t::_,_,h1=>by simp only[L2]at h1;cases h1
 | .f::_,_,h1=>by simp only[L2]at h1;cases h1
 | .b::_,_,h1=>by simp only[L2]at h1;cases h1
 | .p::_,_,h1=>by simp only[L2]at h1;cases h1
theorem A4u (hE:B4 P E)(hQ:U2 P E){C:CF}(hC:A2m P E C)(hD:K2 C){n g:Nat}{as:List TV}{T:Type}{W:Tab T}{U:AV→Option T}{r:T}{out:AV}(hU:∀o,U o=some r→o=out)
  (hT:A7f E C n g W U) (h:A1r E C n g W as U=some r):N0 P (E.sig g).modes (E.sig g).rbx.isSome g as out:=by
 unfold A1r at h
 split at h
 ·rename_i fn hfn
  obtain⟨hf,hname⟩:=hE.fn g fn hfn
  split at h
  ·rename_i c hc
   split at h
   ·rename_i σ hσ
    refine⟨fun args w=>by simp[callFunc,hf,hc];simpa using hname,fun w vs S ow0 hS hlt hargs=>?_⟩
    obtain⟨G,hs⟩:=A8w (deep:=(E.sig g).deep) hS hlt hargs hσ
    have h0:∀p js σ,A1a W p (0::js) σ=none:=by
     intro p js σ
     unfold A1a
     cases hl:A4b p W with
     |none=>rfl
     |some w=>exact hT.zero _ (A1w hl) js σ
    have hW:∀(d:Bool) p,(if M1 ((look g E.kpT).getD []) c p=true then false else(E.sig g).deep)=d→∀js j σ r,A1a W p ((j+1)::js) σ=some r→A0u E C d ((look g E.kpT).getD []) n (A1a W) c (A5t E d (E.sig g).rbx (E.sig g).soft fn U) p js j σ=some r:=by
     intro d p hd js j σ r h
     unfold A1a at h
     cases hl:A4b p W with
     |none=>rw[hl]at h;cases h
     |some w=>
      rw[hl]at h
      have:=hT.turn _ (A1w hl) js j σ r h
      subst hd
      cases hfl:M1 ((look g E.kpT).getD []) c p
      ·rw[if_neg (by simp)];simpa only[A3u,hfn,hc,hfl]using this
      ·rw[if_pos rfl];simpa only[A3u,hfn,hc,hfl]using this
    have key:∀(d:Bool) (e:Ex) σ' a' w' G',Sim ⟨d,w,S,fun q=>ow0 q≠none,C8 (E.sig g).modes 0 as vs⟩ σ' a' w' G'→A5t E d (E.sig g).rbx (E.sig g).soft fn U e σ'=some r→
      (e.exit'= .normal∨e.exit'= .ret)∧a'.defers=[]∧∃v,(results fn a'.tmps).run P w'= .ok v w'∧A1l S ow0 w w' (E.sig g).rbx.isSome (C8 (E.sig g).modes 0 as vs) out v:=by
     intro d e σ' a' w' G' hs' h'
     have hk:(match(E.sig g).rbx with
       |none=>(σ'.freeze (A6i E d fn σ' (E.sig g).soft)).bind fun σ=>A6a E d fn σ
       |some f=>A58 E d f fn σ').bind U=some r→a'.defers=[]∧∃v,(results fn a'.tmps).run P w'= .ok v w'∧A1l S ow0 w w' (E.sig g).rbx.isSome (C8 (E.sig g).modes 0 as vs) out v:=by
      intro h'
      obtain⟨o,ho,hUo⟩:=oB h'
      generalize (E.sig g).rbx=rb at ho⊢
      cases rb with
      |none=>
       obtain⟨ρ,hρ,ho⟩:=oB ho
       obtain⟨v,h1,h2⟩:=A6b hE (hs'.freeze hρ).1 hS ho
       rw[hU o hUo]at h2
       exact⟨hs'.defs,v,h1,h2⟩
      |some f=>
       obtain⟨v,h1,h2⟩:=A8b hE hs' hS ho
       rw[hU o hUo]at h2
       exact⟨hs'.defs,v,h1,h2⟩
     cases e with
     |normal=>exact⟨.inl rfl,hk h'⟩
     |ret=>exact⟨.inr rfl,hk h'⟩
     |exit id=>cases h'
    refine calls_of_wp hf hc ?_
    generalize hQ0:bodyPost P fn _=Q0
    have fin:∀(d:Bool) (e:Ex) σ' a' w' G',Sim ⟨d,w,S,fun q=>ow0 q≠none,C8 (E.sig g).modes 0 as vs⟩ σ' a' w' G'→A5t E d (E.sig g).rbx (E.sig g).soft fn U e σ'=some r→Q0 e.exit' a' w':=by
     intro d e σ' a' w' G' hs' h'
     obtain⟨k1,k2⟩:=key d e σ' a' w' G' hs' h'
     subst hQ0
     rcases k1 with k1|k1<;>rw[k1]<;>exact k2
    have hnr:∀(b:Bool) (d:Dir) (p:List Dir),M1 ((look g E.kpT).getD []) c p=b→d≠ .r→M1 ((look g E.kpT).getD []) c (d::p)=b:=by
     intro b d p hp hne
     cases d<;>first|exact absurd rfl hne|exact hp
    refine A29 (X:=⟨(E.sig g).deep,w,S,fun q=>ow0 q≠none,C8 (E.sig g).modes 0 as vs⟩) (r:=r) (D:=fun p=>M1 ((look g E.kpT).getD []) c p=false) (Q0:=Q0) hE hQ hC hD h0 (fun p hp=>hW _ p (by rw[hp];rfl)) (fun d p=>hnr false d p)
     (fun p x y κ js hp hpart=>?_) (js:=[]) (p:=[]) rfl (fun _=>rfl) rfl (fun e σ' a' w' G'=>fin _ e σ' a' w' G') hs h
    cases hfl:M1 ((look g E.kpT).getD []) c (.r::p)
    ·exact .inl rfl
    right
    have hfl':=hfl
    simp only[M1,hp,Bool.false_or]at hfl
    split at hfl
    ·rename_i y' hy'
     simp only[L2]at hy'
     split at hy'
     ·rename_i x' y2 hx'
      obtain rfl:=oI hy'
      obtain⟨e1,e2,e3,e4⟩:=B0e hx' hpart
      cases e1
      subst e2 e3
      have hcut:∃k,V6 ((look g E.kpT).getD []) y=some k:=by
       unfold A91 at hfl
       cases hk:V6 ((look g E.kpT).getD []) y with
       |none=>rw[hk]at hfl;cases hfl
       |some k=>exact⟨k,rfl⟩
      refine⟨e4,hcut,fun σ2 a2 w2 G2 hs2 hno hw2=>?_⟩
      obtain⟨G3,hs3⟩:=hs2.soften hno
      have h2:=hW false (.r::p) (by rw[hfl'];rfl) [] 0 σ2 r hw2
      have hpr:partAt E C false ((look g E.kpT).getD []) n (A1a W) c (A5t E false (E.sig g).rbx (E.sig g).soft fn U) (.r::p) []=some (y,A5t E false (E.sig g).rbx (E.sig g).soft fn U):=by
       simp only[partAt,A65 hx']
      refine A29 (X:=⟨false,w,S,fun q=>ow0 q≠none,C8 (E.sig g).modes 0 as vs⟩) (r:=r) (D:=fun p=>M1 ((look g E.kpT).getD []) c p=true) (Q0:=Q0) hE hQ hC hD h0 (fun p hp=>hW _ p (by rw[hp];rfl)) (fun d p=>hnr true d p)
       (fun p x y κ js hp hpart=> .inl (by show M1 _ c (.r::p)=true;simp only[M1,hp,Bool.true_or])) (js:=[]) (p:= .r::p) hfl' (fun _=>rfl) hpr (fun e σ' a' w' G'=>fin _ e σ' a' w' G') hs3 ?_
      simp only[A0u,hpr]at h2
      obtain⟨k,hk⟩:=hcut
      cases y<;>first|(simp only[V6]at hk;cases hk;done)|exact h2
     ·cases hy'
    ·cases hfl
   ·cases h
  ·cases h
 ·cases h
end
end Go.Proofs.Ytalmhjlcjcnidaa.Ev

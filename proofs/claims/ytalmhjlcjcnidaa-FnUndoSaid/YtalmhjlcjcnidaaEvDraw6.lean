/- Regions whose order is open: from the list's own order to any. -/
import Derived.Test.YtalmhjlcjcnidaaEvDraw5
set_option linter.all false
namespace Go.Proofs.Ytalmhjlcjcnidaa.Ev
open Go
section
variable {E:Env} {C:CF} {deep:Bool} {ops:Array Oper} {R:Type} {κ:St→Option R} {r:R}
theorem A33 {acc:List Nat}:∀(l:List Edge) (s i:Nat),(l.foldl (fun s e=>bif A1p e then s|||2^e.on|||acc.getD e.on 0 else s) s).testBit i=true→
  s.testBit i=true∨∃e∈l,A1p e=true∧(i=e.on∨(acc.getD e.on 0).testBit i=true)
 |[],s,i,h=> .inl h
 |e::l,s,i,h=>by
  rw[List.foldl_cons]at h
  rcases A33 l _ i h with h|⟨e',h1,h2⟩
  ·cases hb:A1p e<;>simp only[hb,zB,zA]at h
   ·exact .inl h
   ·simp only[Nat.testBit_or,Bool.or_eq_true,Nat.testBit_two_pow,zG]at h
    rcases h with(h|h)|h
    ·exact .inl h
    ·exact .inr ⟨e,zM ..,hb,.inl h.symm⟩
    ·exact .inr ⟨e,zM ..,hb,.inr h⟩
  ·exact .inr ⟨e',zF _ h1,h2⟩
def B0i (o:Oper)(l:Array Bool):Prop:=∀e∈o.after,Region.binds .any e=true→l.getD e.on false=true
def A4q (ops:Array Oper)(acc:List Nat):Prop:=∀(j m:Nat) (o:Oper),acc[j]?=some m→ops[j]?=some o→∀l,Closed ops l→B0i o l→∀i,m.testBit i=true→l.getD i false=true
theorem A0e:∀(t:List Oper) (acc:List Nat),(∀j,t[j]?=ops[acc.length+j]?)→A4q ops acc→A4q ops (C9 t acc)
 |[],acc,_,h=>h
 |o::t,acc,ht,h=>by
  simp only[C9]
  refine A0e t _ (fun j=>?_) ?_
  ·have:=ht (j+1)
   simpa[Nat.add_assoc,Nat.add_comm 1 j]using this
  ·intro j m oj hj hoj l hcl hd i hi
   rw[List.getElem?_append]at hj
   split at hj
   ·exact h j m oj hj hoj l hcl hd i hi
   ·rename_i hlt
    have hj0:j=acc.length:=by
     rcases zE1 (j - acc.length) 1 with h'|h'
     ·omega
     ·rw[List.getElem?_eq_none (by simpa using h')]at hj;cases hj
    subst hj0
    simp at hj;subst hj
    have ho:ops[acc.length]?=some o:=by simpa using(ht 0).symm
    obtain rfl:=oI (hoj.symm.trans ho)
    have hi':=A33 (acc:=acc) oj.after.toList 0 i (by simpa using hi)
    rcases hi' with hi'|⟨e,he,hb,hi'⟩
    ·simp at hi'
    ·have hel:=hd e (by simpa using he) hb
     rcases hi' with rfl|hi'
     ·exact hel
     ·cases hm:acc[e.on]? with
      |none=>simp[List.getD,hm]at hi'
      |some m=>
       simp only[List.getD,hm,Option.getD_some]at hi'
       have hlt:e.on<ops.size:=by
        have hlt1:=(List.getElem?_eq_some_iff.mp hm).1
        have:=(Array.getElem?_eq_some_iff.1 ho).1
        omega
       refine h e.on m ops[e.on] hm (Array.getElem?_eq_getElem hlt) l hcl ?_ i hi'
       exact hcl e.on _ (Array.getElem?_eq_getElem hlt) hel
theorem A7r {k:Nat}{x:Oper}{p:List Nat×List Nat}:∀{ys:List Oper} {bs:List Nat} {qs:List (List Nat×List Nat)},A77 ops k x p ys bs qs=true→∀(m:Nat) (y:Oper),ys[m]?=some y→
  ∃(b:Nat) (q:List Nat×List Nat),bs[m]?=some b∧qs[m]?=some q∧(b.testBit k=true∨A7o ops x y p q=true)
 |[],_,_,_,m,y,h=>by simp at h
 |y'::ys,[],_,h,m,y,hy=>by simp[A77]at h
 |y'::ys,_::_,[],h,m,y,hy=>by simp[A77]at h
 |y'::ys,b::bs,q::qs,h,0,y,hy=>by
  simp only[A77,zJ,Bool.or_eq_true]at h
  simp at hy;subst hy
  exact⟨b,q,rfl,rfl,h.1⟩
 |y'::ys,b::bs,q::qs,h,m+1,y,hy=>by
  simp only[A77,zJ]at h
  obtain⟨b',q',h1,h2,h3⟩:=A7r h.2 m y (by simpa using hy)
  exact⟨b',q',by simpa using h1,by simpa using h2,h3⟩
theorem A4l:∀{xs:List Oper} {k:Nat} {bs:List Nat} {ps:List (List Nat×List Nat)},A0p ops k xs bs ps=true→∀(a:Nat) (x:Oper),xs[a]?=some x→
  ∃p,ps[a]?=some p∧∀(m:Nat) (y:Oper),a<m→xs[m]?=some y→∃(b:Nat) (q:List Nat×List Nat),bs[m]?=some b∧ps[m]?=some q∧(b.testBit (k+a)=true∨A7o ops x y p q=true)
 |[],_,_,_,_,a,x,h=>by simp at h
 |x'::xs,k,[],_,h,a,x,hx=>by simp[A0p]at h
 |x'::xs,k,_::_,[],h,a,x,hx=>by simp[A0p]at h
 |x'::xs,k,b0::bs,p0::ps,h,0,x,hx=>by
  simp only[A0p,zJ]at h
  simp at hx;subst hx
  refine⟨p0,rfl,fun m y hm hy=>?_⟩
  cases m with
  |zero=>omega
  |succ m=>
   obtain⟨b,q,h1,h2,h3⟩:=A7r h.1 m y (by simpa using hy)
   exact⟨b,q,by simpa using h1,by simpa using h2,by simpa using h3⟩
 |x'::xs,k,b0::bs,p0::ps,h,a+1,x,hx=>by
  simp only[A0p,zJ]at h
  obtain⟨p,h1,h2⟩:=A4l h.2 a x (by simpa using hx)
  refine⟨p,by simpa using h1,fun m y hm hy=>?_⟩
  cases m with
  |zero=>omega
  |succ m=>
   obtain⟨b,q,h3,h4,h5⟩:=h2 m y (by omega) (by simpa using hy)
   exact⟨b,q,by simpa using h3,by simpa using h4,by rwa[show k+(a+1)=k+1+a by omega]⟩
theorem A47:∀{t:List Oper} {k:Nat},T6 k t=true→∀(m:Nat) (o:Oper),t[m]?=some o→∀e∈o.after,Region.binds .any e=true→e.on<k+m
 |[],_,_,m,o,h=>by simp at h
 |o'::t,k,h,0,o,ho=>by
  simp only[T6,zJ]at h
  simp at ho;subst ho
  intro e he hb
  have:=List.all_eq_true.mp h.1 e (by simpa using he)
  simp only[Bool.or_eq_true,Bool.not_eq_true']at this
  rcases this with h'|h'
  ·rw[show A1p e=Region.binds .any e from rfl,hb]at h';cases h'
  ·exact Nat.blt_eq.mp h'
 |o'::t,k,h,m+1,o,ho=>by
  simp only[T6,zJ]at h
  intro e he hb
  have:=A47 h.2 m o (by simpa using ho) e he hb
  omega
def A8i (E:Env)(C:CF)(deep:Bool)(ops:Array Oper)(κ:St→Option R)(r:R)(F:List (List Nat×List Nat)):List Oper→Nat→St→Prop
 |[],_,σ=>κ σ=some r
 |o::t,k,σ=>∃σ',G0 E C deep ops o σ some=some σ'∧mayDraw E o σ σ'=true∧F[k]?=some (rdOf o σ,A6m E o σ σ')∧A8i E C deep ops κ r F t (k+1) σ'
theorem A5k (hC:K2 C){m:Nat}:∀(l:List Oper) (fs:List (List Nat×List Nat)) (σ:St),V9 E C deep ops m l fs σ κ=some r→
  ∃F t,F=fs++t∧A5j ops m F=true∧A8i E C deep ops κ r F l fs.length σ
 |[],fs,σ,h=>by
  simp only[V9]at h
  cases hb:A5j ops m fs<;>simp only[hb,zB,zA]at h
  ·cases h
  ·exact⟨fs,[],by simp,hb,h⟩
 |o::l,fs,σ,h=>by
  simp only[V9]at h
  rw[A08 hC]at h
  obtain⟨σ',h1,h2⟩:=oB h
  cases hm:mayDraw E o σ σ'<;>simp only[hm,zB,zA]at h2
  ·cases h2
  ·obtain⟨F,t,rfl,h3,h4⟩:=A5k hC l _ σ' h2
   refine⟨_,(rdOf o σ,A6m E o σ σ')::t,by simp,h3,σ',h1,hm,by simp,?_⟩
   simpa using h4
theorem A60 {q:Nat}:∀{rows:List (Nat×A6)},look q rows≠none→q∈rows.map (·.1)
 |[],h=>absurd rfl h
 |(k,v)::t,h=>by
  simp only[look]at h
  cases hb:Nat.beq k q<;>simp only[hb,zB,zA]at h
  ·simp only[List.map_cons,List.mem_cons];exact .inr (A60 h)
  ·rw[zN hb];simp
theorem B12 {o:Oper}{σ σ':St}{q:Nat}(h:Tch E o σ σ' q):q∈A6m E o σ σ':=by
 unfold A6m
 rcases h with h|⟨h1,h2⟩
 ·exact zZ _ h
 ·refine zA1 _ ?_
  unfold B0d
  rw[List.mem_filter]
  exact⟨A60 h2,by rw[h1]⟩
theorem A35:∀{bs:List Nat} {k:Nat},N6 k bs=true→∀{j b:Nat},bs[j]?=some b→b=2^(k+j) - 1
 |[],k,_,j,b,h=>by simp at h
 |b0::bs,k,h,0,b,hb=>by
  simp only[N6,zJ]at h
  simp at hb;subst hb
  exact zN h.1
 |b0::bs,k,h,j+1,b,hb=>by
  simp only[N6,zJ]at h
  have:=A35 h.2 (j:=j) (b:=b) (by simpa using hb)
  rwa[show k+1+j=k+(j+1)by omega]at this
theorem V5:∀(t:List Oper) (acc:List Nat),(C9 t acc).length=acc.length+t.length
 |[],acc=>by simp[C9]
 |o::t,acc=>by simp only[C9];rw[V5 t];simp;omega
section
variable {m:Nat} {F:List (List Nat×List Nat)}
structure A1m (ops:Array Oper) (listed:Array Bool) (k:Nat):Prop where
 size:listed.size=ops.size
 spec:∀j,j<ops.size→listed[j]?=some (decide (j<k))
theorem A1m.get {listed:Array Bool}{k:Nat}(h:A1m ops listed k){j:Nat}(hj:j<ops.size)(d:Bool):listed.getD j d=decide (j<k):=by
 simp only[Array.getD_eq_getD_getElem?,h.spec j hj,Option.getD_some]
theorem A1m.set {listed:Array Bool}{k:Nat}(h:A1m ops listed k):A1m ops (listed.setIfInBounds k true) (k+1):=by
 refine⟨by simpa using h.size,fun j hj=>?_⟩
 rw[Array.getElem?_setIfInBounds]
 by_cases hkj:k=j
 ·subst hkj;rw[if_pos rfl,if_pos (by rw[h.size];exact hj)];simp
 ·rw[if_neg hkj,h.spec j hj]
  congr 1
  by_cases h':j<k
  ·simp[h'];omega
  ·simp[h'];omega
theorem A5d (hahead:T6 0 ops.toList=true){i:Nat}{o:Oper}(ho:ops[i]?=some o):∀e∈o.after,Region.binds .any e=true→e.on<i:=by
 intro e he hb
 have:=A47 hahead i o (by simpa using ho) e he hb
 omega
theorem A1m.closed (hahead:T6 0 ops.toList=true){listed:Array Bool}{k:Nat}(h:A1m ops listed k):Closed ops listed:=by
 intro j oj hj hlj e he hb
 have hjs:=(Array.getElem?_eq_some_iff.1 hj).1
 rw[h.get hjs,zG]at hlj
 have:=A5d hahead hj e he hb
 rw[h.get (by omega)]
 simp;omega
theorem A1m.ready (hahead:T6 0 ops.toList=true){listed:Array Bool}{k:Nat}(h:A1m ops listed k){o:Oper}(ho:ops[k]?=some o):k∈Region.ready .any ops listed:=by
 have hkl:=(Array.getElem?_eq_some_iff.1 ho).1
 rw[mem_ready]
 refine⟨by rw[h.get hkl];simp,o,ho,fun e he hb=>?_⟩
 have:=A5d hahead ho e he hb
 rw[h.get (by omega)]
 simpa using this
theorem A1m.unready {listed:Array Bool}{k:Nat}(h:A1m ops listed k){j:Nat}(hj:j∈Region.ready .any ops listed):k≤j∧j<ops.size:=by
 obtain⟨h1,o,ho,_⟩:=mem_ready.1 hj
 have hjo:=(Array.getElem?_eq_some_iff.1 ho).1
 rw[h.get hjo]at h1
 simp at h1
 exact⟨h1,hjo⟩
theorem A0j (hfull:N6 m ((C9 ops.toList []).drop m)=true){j i:Nat}(hm:m≤j)(hij:i<j)(hjs:j<ops.size):∀l,Closed ops l→l.getD i true=false→j∉Region.ready .any ops l:=by
 intro l hlc hli hjr
 have hbits:A4q ops (C9 ops.toList []):=A0e ops.toList [] (by simp) (by intro j m o hj;simp at hj)
 obtain⟨_,oj,hoj,hdeps⟩:=mem_ready.1 hjr
 have hlen:(C9 ops.toList []).length=ops.size:=by rw[V5];simp
 have hb:(C9 ops.toList [])[j]?=some ((C9 ops.toList [])[j]'(by omega)):=List.getElem?_eq_getElem (by omega)
 have he:=A35 hfull (j:=j - m) (b:=(C9 ops.toList [])[j]'(by omega)) (by rw[List.getElem?_drop,show m+(j - m)=j by omega];exact hb)
 rw[show m+(j - m)=j by omega]at he
 have:=hbits j _ oj hb hoj l hlc hdeps i (by rw[he,Nat.testBit_two_pow_sub_one];simpa using hij)
 rcases zE1 i l.size with h'|h'
 ·simp[h']at this hli;rw[this]at hli;cases hli
 ·simp[Array.getElem?_eq_none h']at this
theorem A6l (hC:K2 C)(hahead:T6 0 ops.toList=true)(hfull:N6 m ((C9 ops.toList []).drop m)=true):∀(t:List Oper) (k:Nat) (σ:St) (listed:Array Bool),m≤k→(∀j,t[j]?=ops[k+j]?)→k+t.length=ops.size→A1m ops listed k→
  R8 E C deep ops t σ κ=some r→A5c E C deep ops κ r t k listed σ
 |[],k,σ,listed,hmk,ht,hk,hu,h=>by
  refine⟨?_,h⟩
  cases hr:Region.ready .any ops listed with
  |nil=>rfl
  |cons i t=>
   have:=hu.unready (j:=i) (by rw[hr];exact zM ..)
   simp at hk;omega
 |o::t,k,σ,listed,hmk,ht,hk,hu,h=>by
  simp only[R8]at h
  rw[A08 hC]at h
  obtain⟨σ',h1,h2⟩:=oB h
  have ho:ops[k]?=some o:=by simpa using(ht 0).symm
  have hr:=hu.ready hahead ho
  refine⟨fun h=>(by rw[h]at hr;cases hr),fun i hi=>?_,ho,σ',h1,A6l hC hahead hfull t (k+1) σ' _ (by omega) (fun j=>?_) ?_ hu.set h2⟩
  ·obtain⟨a1,a2⟩:=hu.unready hi
   rcases zE1 k i with h'|h'
   ·exact absurd hi (A0j hfull (by omega) h' a2 listed (hu.closed hahead) (mem_ready.1 hr).1)
   ·omega
  ·have:=ht (j+1)
   simpa[Nat.add_assoc,Nat.add_comm 1 j]using this
  ·simp only[zW]at hk;omega
theorem A8v (hC:K2 C)(hB:A5j ops m F=true)(hm:m≤ops.size):∀(l:List Oper) (k:Nat) (σ:St) (listed:Array Bool),(∀j,j<l.length→l[j]?=ops[k+j]?)→k+l.length=m→A1m ops listed k→
  A8i E C deep ops (fun σ'=>R8 E C deep ops (ops.toList.drop m) σ' κ) r F l k σ→
  AnyE E C deep ops (fun i=>(F.getD i ([],[])).1) (fun i=>(F.getD i ([],[])).2) (A5c E C deep ops κ r (ops.toList.drop m) m) l.length listed σ:=by
 simp only[A5j,zJ]at hB
 obtain⟨⟨⟨_,hahead⟩,hpairs⟩,hfull⟩:=hB
 have hbits:A4q ops (C9 ops.toList []):=A0e ops.toList [] (by simp) (by intro j m o hj;simp at hj)
 intro l
 induction l with
 |nil=>
  intro k σ listed hl hk hu hrun
  simp at hk;subst hk
  exact⟨σ,Same.refl σ,A6l hC hahead hfull _ _ σ listed (Nat.le_refl _) (fun j=>by simp) (by simp;omega) hu hrun⟩
 |cons o t ih=>
  intro k σ listed hl hk hu hrun
  obtain⟨σ',h1,h2,h3,h4⟩:=hrun
  simp only[zW]at hk
  have ho:ops[k]?=some o:=by simpa using(hl 0 (by simp)).symm
  have hready:=hu.ready hahead ho
  have hkl:k<ops.size:=by omega
  refine AnyE.first hC ho (fun listed' σ0 hz j hj=>?_) t.length listed σ σ' (hu.closed hahead) (fun j oj hoj hjk hun=>?_) hready ⟨h1,h2,fun q hq=>?_,fun q hq=>?_⟩ (ih (k+1) σ' _ (fun j hj=>?_) ?_ hu.set h4)
  ·cases ht:ops.toList.drop m with
   |nil=>rw[ht]at hz;rw[hz.1]at hj;cases hj
   |cons o' t'=>
    rw[ht]at hz
    have hjm:=hz.2.1 j hj
    subst hjm
    have hjs:=(Array.getElem?_eq_some_iff.1 hz.2.2.1).1
    exact A0j hfull (Nat.le_refl _) (by omega) hjs
  ·have hjs:=(Array.getElem?_eq_some_iff.1 hoj).1
   have hkj:k<j:=by
    rw[hu.get hjs]at hun
    simp at hun;omega
   rcases zE1 j m with hjm|hjm
   ·obtain⟨p,hp,hall⟩:=A4l hpairs k o (by rw[List.getElem?_take,if_pos (by omega)];simpa using ho)
    obtain⟨b,q,hb,hq,hor⟩:=hall j oj hkj (by rw[List.getElem?_take,if_pos hjm];simpa using hoj)
    rw[List.getElem?_take,if_pos hjm]at hb
    rw[zS]at hor
    rcases hor with hor|hor
    ·left
     intro l hlc hlk hjr
     obtain⟨_,oj',hoj',hdeps⟩:=mem_ready.1 hjr
     obtain rfl:=oI (hoj.symm.trans hoj')
     have:=hbits j b oj hb hoj l hlc hdeps k hor
     rcases zE1 k l.size with h'|h'
     ·simp[h']at this hlk;rw[this]at hlk;cases hlk
     ·simp[Array.getElem?_eq_none h']at this
    ·right
     simp only[A7o,zJ]at hor
     obtain⟨⟨⟨⟨⟨a0,a1⟩,a2⟩,a3⟩,a4⟩,a5⟩:=hor
     obtain⟨s1,s2,s3⟩:=Oper.apart_spec a0
     have ek:F.getD k ([],[])=p:=by simp[List.getD,hp]
     have ej:F.getD j ([],[])=q:=by simp[List.getD,hq]
     exact⟨s1,s2,s3,by rw[ek,ej];exact L8 a1,by rw[ek,ej];exact L8 a2,by rw[ek,ej];exact L8 a3,by rw[ej];exact L8 a4,by rw[ek];exact L8 a5⟩
   ·left
    exact A0j hfull hjm hkj hjs
  ·simp only[List.getD,h3,Option.getD_some];exact hq
  ·simp only[List.getD,h3,Option.getD_some];exact B12 hq
  ·have:=hl (j+1) (by simpa using hj)
   simpa[Nat.add_assoc,Nat.add_comm 1 j]using this
  ·omega
theorem A8u (hC:K2 C)(hm:m≤ops.size){σ:St}(h:A30 E C deep ops m σ κ=some r):∃RdF TF,AnyE E C deep ops RdF TF (A5c E C deep ops κ r (ops.toList.drop m) m) m (Array.replicate ops.size false) σ:=by
 obtain⟨F,t,e,h1,h2⟩:=A5k hC _ [] σ h
 have hl:(ops.toList.take m).length=m:=by simp;omega
 have:=A8v hC h1 hm (ops.toList.take m) 0 σ (Array.replicate ops.size false) (fun j hj=>by rw[List.getElem?_take,if_pos (by omega)];simp) (by omega) ⟨by simp,fun j hj=>by rw[Array.getElem?_replicate];simp[hj]⟩ h2
 rw[hl]at this
 exact⟨_,_,this⟩
theorem A3k:∀(bs:List Nat) (k:Nat),M4 k bs≤bs.length
 |[],k=>by simp[M4]
 |b::t,k=>by
  simp only[M4]
  cases N6 k (b::t)<;>simp
  exact A3k t (k+1)
end
end
end Go.Proofs.Ytalmhjlcjcnidaa.Ev

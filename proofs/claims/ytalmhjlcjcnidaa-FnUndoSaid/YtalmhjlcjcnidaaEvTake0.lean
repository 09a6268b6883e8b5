/- A slice in an element's cell gets a row of its own: the memory stays as it is. -/
import Derived.Test.YtalmhjlcjcnidaaEvOps5
set_option linter.all false
namespace Go.Proofs.Ytalmhjlcjcnidaa.Ev
open Go
section
variable {P:Program} {E:Env} {X:Ctx} {σ σ' τ:St} {a:Act} {w w':World} {G:Gh}
theorem A6d {h:Array Obj}{f:Kd}{xs:List f.T}{v:Value}{T:Nat→Prop}{n:Nat}(hc:A2 true h (.sl f) xs [v] T)(hv:G.hv n=v)
  (h1:∀q,T q→(X.deep=true∨∃c m,v= .slice (some ⟨q,0,none⟩) c m)→G.rt q=some n)
  (h2:X.deep=false→∀q,T q→(¬∃c m,v= .slice (some ⟨q,0,none⟩) c m)→Imm X σ h G q):E7 X σ h G n (.data f xs):=by
 simp only[A2]at hc
 rcases hc with⟨rfl,a,c,e,e'⟩|⟨b,off,cap,arr,e,fr,ow,e1,e2,e3,e4,e5,e6⟩
 ·obtain⟨rfl,rfl⟩:=e' trivial
  simp at e
  exact .inl ⟨rfl,by rw[hv,e]⟩
 ·obtain⟨rfl,e7,e8⟩:=e5 trivial
  simp at e1
  refine .inr ⟨b,cap,arr,e,fr,ow,by rw[hv,e1],e2,h1 b e3 (.inr ⟨_,_,e1⟩),e4,e7,e8,fun i x hx=>?_⟩
  have:=e6 i x hx
  rw[zS]at this
  unfold C0
  cases hd:X.deep
  ·refine this.rd.mono fun q hq=>?_
   rw[if_neg (by simp)]
   refine h2 hd q hq.1 ?_
   rintro⟨c,m,e9⟩
   rw[e1]at e9;simp at e9
   exact(hq.2 trivial).1 e9.1.symm
  ·refine this.mono fun q hq=>?_
   rw[if_pos rfl]
   exact⟨h1 q hq.1 (.inl hd),hq.2 trivial⟩
theorem Sim.takePa (hs:Sim X σ a w G)(hd:X.deep=true){n r i c:Nat}{v:Value}(hl:A5 X σ w.heap G (.pa r i c) v)(h:σ.takePa n r i c=some τ):
  ∃G',Sim X τ a w G'∧A5 X τ w.heap G' (.ow n) v∧∃row,τ.look n=some row:=by
 classical
 unfold St.takePa at h
 split at h
 ·rename_i f xs hr hn
  obtain⟨p,hp,rfl⟩:=oM h
  obtain⟨g,ys⟩:=p
  have hrn:r≠n:=by rintro rfl;rw[hr]at hn;cases hn
  obtain⟨hi,hc,b,nn,cap,arr,e,fr,e1,e2,e3⟩:=hl.2 f xs (St.dat_of hr)
  rcases hs.row r _ hr with⟨_,e'⟩|⟨b',cap',arr',et,fr',ow,d1,d2,d3,d4,d5,d6,d7⟩
  ·rw[e1]at e';simp at e'
  rw[e1]at d1;simp at d1;obtain⟨rfl,rfl,rfl⟩:=d1
  rw[e2]at d4;simp at d4;obtain⟨rfl,rfl,rfl⟩:=d4
  have hel:=d7 i _ (R9 (d:=f.zero) hi)
  rw[hd]at hel
  obtain⟨S',u,k1,k2,k3,k4⟩:=A2.toHole hel hp
  rw[C5 hc,e3]at k1
  obtain rfl:=oI k1
  have hES:∀j q,C0 X σ w.heap G r b j ow q→G.rt q=some r∧q≠b∧ow q=j:=by
   intro j q hq;unfold C0 at hq;rw[if_pos hd]at hq;exact hq
  have hS':∀q,S' q→G.rt q=some r∧q≠b∧ow q=i:=fun q hq=>hES i q (k2 q hq)
  let G':Gh:={rt:=fun q=>if S' q then some n else if G.rt q=some n then none else G.rt q,hv:=fun q=>if q=n then v else G.hv q}
  have hr0:=hr
  have hn0:=hn
  have hlook:∀q,((σ.setRow r (.hol f xs i c n)).setRow n (.data g ys)).look q=if q=n then some (.data g ys)else if q=r then some (.hol f xs i c n)else σ.look q:=by
   intro q;rw[A3,A3]
  have hrtr:∀q,G.rt q=some r→¬S' q→G'.rt q=some r:=by
   intro q hq hns
   show(if S' q then some n else if G.rt q=some n then none else G.rt q)=some r
   rw[if_neg hns,if_neg (by rw[hq];simpa using hrn),hq]
  have hvn:G'.hv n=v:=if_pos rfl
  have hvr:∀q,q≠n→G'.hv q=G.hv q:=fun q hq=>if_neg hq
  refine⟨G',?_,⟨A5.oneCell hl,fun _ _ _=>hvn.symm⟩,_,by rw[hlook,if_pos rfl]⟩
  refine hs.stepG (w':=w) (G':=G') rfl rfl (Nat.le_refl _) rfl rfl rfl (fun _ _ _=>rfl) ?_ ?_ ?_ ?_
  ·intro q r' hr' hlv hq
   change (if S' q then some n else if G.rt q=some n then none else G.rt q)=some r' at hr'
   split at hr'
   ·rename_i hq'
    exact⟨r,(hS' q hq').1,_,hr0,by simp⟩
   ·split at hr'
    ·cases hr'
    ·rename_i hnn
     refine⟨r',hr',?_⟩
     obtain⟨row,m1,m2⟩:=hlv
     rw[hlook]at m1
     rw[if_neg (by rintro rfl;exact hnn hr')]at m1
     split at m1
     ·rename_i e;subst e;exact⟨_,hr0,by simp⟩
     ·exact⟨row,m1,m2⟩
  ·intro q r' hr'
   change (if S' q then some n else if G.rt q=some n then none else G.rt q)=some r' at hr'
   split at hr'
   ·rename_i hq';exact hs.lt q r (hS' q hq').1
   ·split at hr'
    ·cases hr'
    ·exact hs.lt q r' hr'
  ·intro q row hq
   rw[hlook]
   split
   ·exact⟨_,rfl⟩
   ·split
    ·exact⟨_,rfl⟩
    ·exact⟨_,hq⟩
  ·intro q row' hq
   rw[hlook]at hq
   by_cases hqn:q=n
   ·subst hqn
    rw[if_pos rfl]at hq
    obtain rfl:=oI hq
    refine .inr ⟨?_,⟨(fun f ls e=>by cases e),fun row h0=>by rw[hn0]at h0;cases h0⟩⟩
    refine A6d (v:=v) k3 hvn (fun q' hq' _=>if_pos hq') fun hdf=>by rw[hd]at hdf;cases hdf
   ·rw[if_neg hqn]at hq
    by_cases hqr:q=r
    ·subst hqr
     rw[if_pos rfl]at hq
     obtain rfl:=oI hq
     refine .inr ⟨?_,⟨(fun f ls e=>by cases e),fun row h0=>?_⟩⟩
     ·refine⟨hd,hi,hc,⟨_,by rw[hlook,if_pos rfl]⟩,b,cap,arr,e,fr,ow,by rw[hvr q hqn];exact e1,d2,hrtr b d3 fun hb=>(hS' b hb).2.1 rfl,e2,d5,d6,fun j x hx=>⟨fun hj=>?_,fun hj=>?_⟩,fun _ _ _=>by rw[hvn];exact e3⟩
      ·have:=d7 j x hx
       rw[hd]at this
       refine this.mono fun q' hq'=>?_
       obtain⟨m1,m2,m3⟩:=hES j q' hq'
       unfold C0;rw[if_pos hd]
       exact⟨hrtr q' m1 fun hs'=>hj (m3.symm.trans (hS' q' hs').2.2),m2,m3⟩
      ·subst hj
       rw[R9 (d:=f.zero) hi]at hx
       obtain rfl:=oI hx
       refine k4.mono fun q' hq'=>?_
       obtain⟨m1,m2,m3⟩:=hES j q' hq'.1
       unfold C0;rw[if_pos hd]
       exact⟨hrtr q' m1 hq'.2,m2,m3⟩
     ·rw[hr0]at h0;obtain rfl:=oI h0
      exact⟨⟨rfl,rfl⟩,fun _=>⟨hvr q hqn,.inr (.inr rfl)⟩⟩
    ·rw[if_neg hqr]at hq
     refine .inl ⟨hq,hvr q hqn,fun _ q' hq'=>⟨?_,rfl⟩⟩
     show(if S' q' then some n else if G.rt q'=some n then none else G.rt q')=some q
     rw[if_neg fun hs'=>by rw[(hS' q' hs').1]at hq';exact hqr (oI hq').symm,if_neg (by rw[hq'];simpa using hqn),hq']
 ·cases h
theorem A1d {r:Nat}{f:Kd}{xs:List f.T}{h:Array Obj}{S:Nat→Prop}(hr:E7 X σ h G r (.data f xs))(hS:∀q,G.rt q=some r→S q)(hI:∀q,Imm X σ h G q→S q):A2 false h (.sl f) xs [G.hv r] S:=by
 simp only[A2]
 rcases hr with⟨rfl,e⟩|⟨b,cap,arr,e,fr,ow,d1,d2,d3,d4,d5,d6,d7⟩
 ·exact .inl ⟨rfl,none,0,by rw[e],by simp⟩
 ·refine .inr ⟨b,0,cap,arr,e,fr,ow,by rw[d1],d2,hS b d3,d4,by simp,fun i x hx=>?_⟩
  rw[zS]
  refine(d7 i x hx).toRd.mono fun q hq=>?_
  unfold C0 at hq
  split at hq
  ·exact⟨hS q hq.1,by simp⟩
  ·exact⟨hI q hq,by simp⟩
theorem A3f (hs:Sim X σ a w G){S:Nat→Prop}(hI:∀q,Imm X σ w.heap G q→S q):∀{f:Kd} {ls:List A0} {x:f.T} {used:List Nat} {rest:List A0} {vs:List Value},A4 false σ.rows f ls=some (x,used,rest)→
  A7 (A5 X σ w.heap G) ls vs→(∀r∈ls.flatMap A0.refs,σ.live r→∀q,G.rt q=some r→S q)→∃v1 v2,vs=v1++v2∧A7 (A5 X σ w.heap G) rest v2∧A2 false w.heap f x v1 S∧∀l∈rest,l∈ls:=by
 intro f
 induction f with
 |int k=>
  intro ls x used rest vs h hl hd
  cases ls with
  |nil=>simp[A4]at h
  |cons l t=>
   cases l<;>simp only[A4]at h<;>try (cases h;done)
   rename_i j n
   cases hk:decide (j=k)<;>simp only[hk,zB,zA]at h
   ·cases h
   ·obtain⟨rfl,hz⟩:=zQ (oI h)
    obtain⟨rfl,rfl⟩:=zQ hz
    cases hl with
    |cons r tl=>
     rw[zG]at hk;subst hk
     exact⟨[_],_,rfl,tl,by simp only[A2];rw[r],fun l hl=>zF _ hl⟩
 |bool=>
  intro ls x used rest vs h hl hd
  cases ls with
  |nil=>simp[A4]at h
  |cons l t=>
   cases l<;>simp only[A4]at h<;>try (cases h;done)
   obtain⟨rfl,hz⟩:=zQ (oI h)
   obtain⟨rfl,rfl⟩:=zQ hz
   cases hl with
   |cons r tl=>exact⟨[_],_,rfl,tl,by simp only[A2];rw[r],fun l hl=>zF _ hl⟩
 |str=>
  intro ls x used rest vs h hl hd
  cases ls with
  |nil=>simp[A4]at h
  |cons l t=>
   cases l<;>simp only[A4]at h<;>try (cases h;done)
   obtain⟨rfl,hz⟩:=zQ (oI h)
   obtain⟨rfl,rfl⟩:=zQ hz
   cases hl with
   |cons r tl=>exact⟨[_],_,rfl,tl,by simp only[A2];rw[r],fun l hl=>zF _ hl⟩
 |sl f _=>
  intro ls x used rest vs h hl hd
  cases ls with
  |nil=>simp[A4]at h
  |cons l t=>
   simp only[A4]at h
   obtain⟨⟨ys,us⟩,hq,h⟩:=oB h
   obtain⟨rfl,hz⟩:=zQ (oI h)
   obtain⟨rfl,rfl⟩:=zQ hz
   cases hl with
   |cons r tl=>
    refine⟨[_],_,rfl,tl,?_,fun l hl=>zF _ hl⟩
    unfold A3s at hq
    split at hq
    ·rename_i g zs
     simp only[zA]at hq
     split at hq
     ·rename_i e;subst e
      obtain⟨rfl,_⟩:=zQ (oI hq)
      exact A2.mono hI r
     ·cases hq
    ·obtain⟨rfl,_⟩:=zQ (oI hq)
     simp only[A5]at r
     subst r
     simp only[A2]
     exact .inl ⟨trivial,none,0,rfl,fun _=>⟨rfl,rfl⟩⟩
    ·rename_i n
     split at hq
     ·rename_i g zs hr
      split at hq
      ·rename_i e;subst e
       obtain⟨rfl,_⟩:=zQ (oI hq)
       have hr':σ.look n=some (.data g zs):=hr
       rw[r.2 g zs (St.dat_of hr')]
       exact A1d (hs.row n _ hr') (hd n (by simp[A0.refs]) ⟨_,hr',by simp⟩) hI
      ·cases hq
     ·cases hq
    ·cases hq
 |pair a b iha ihb=>
  intro ls x used rest vs h hl hd
  have h':((A4 false σ.rows a ls).bind fun q=>(A4 false σ.rows b q.2.2).bind fun p=>some ((q.1,p.1),q.2.1++p.2.1,p.2.2))=some (x,used,rest):=by
   cases ls<;>simpa[A4]using h
  obtain⟨⟨xa,ua,ra⟩,ha,h'⟩:=oB h'
  obtain⟨⟨xb,ub,rb⟩,hb,h'⟩:=oB h'
  obtain⟨rfl,hz⟩:=zQ (oI h')
  obtain⟨rfl,rfl⟩:=zQ hz
  obtain⟨v1,v2,rfl,k1,k2,k5⟩:=iha ha hl hd
  obtain⟨w1,w2,rfl,m1,m2,m5⟩:=ihb hb k1 fun r hr=>hd r (by
   simp only[zB1]at hr⊢
   obtain⟨l,hl,hr⟩:=hr
   exact⟨l,k5 l hl,hr⟩)
  refine⟨v1++w1,w2,by simp,m1,?_,fun l hl=>k5 l (m5 l hl)⟩
  simp only[A2]
  exact⟨v1,w1,fun _=>true,rfl,k2.mono fun q hq=>⟨hq,by simp⟩,m2.mono fun q hq=>⟨hq,by simp⟩⟩
theorem A3g:∀{f:Kd} {ls:List A0} {p:f.T×List Nat×List A0},A4 false σ.rows f ls=some p→∀r∈ls.flatMap A0.refs,r∈p.2.1∨r∈p.2.2.flatMap A0.refs:=by
 intro f
 induction f with
 |int k=>
  intro ls p h
  cases ls with
  |nil=>simp[A4]at h
  |cons l t=>
   cases l<;>simp only[A4]at h<;>try (cases h;done)
   rename_i j n
   cases hk:decide (j=k)<;>simp only[hk,zB,zA]at h
   ·cases h
   ·obtain rfl:=oI h
    intro r hr;simp only[zV,A0.refs,List.nil_append]at hr;exact .inr hr
 |bool=>
  intro ls p h
  cases ls with
  |nil=>simp[A4]at h
  |cons l t=>
   cases l<;>simp only[A4]at h<;>try (cases h;done)
   obtain rfl:=oI h
   intro r hr;simp only[zV,A0.refs,List.nil_append]at hr;exact .inr hr
 |str=>
  intro ls p h
  cases ls with
  |nil=>simp[A4]at h
  |cons l t=>
   cases l<;>simp only[A4]at h<;>try (cases h;done)
   obtain rfl:=oI h
   intro r hr;simp only[zV,A0.refs,List.nil_append]at hr;exact .inr hr
 |sl f _=>
  intro ls p h
  cases ls with
  |nil=>simp[A4]at h
  |cons l t=>
   simp only[A4]at h
   obtain⟨q,hq,h⟩:=oB h
   obtain rfl:=oI h
   intro r hr
   simp only[zV,zY]at hr
   rcases hr with hr|hr
   ·left
    cases l<;>simp only[A3s]at hq<;>try (cases hq;done)
    ·simp[A0.refs]at hr
    ·simp[A0.refs]at hr
    ·rename_i r0
     simp[A0.refs]at hr
     subst hr
     split at hq
     ·split at hq
      ·obtain rfl:=oI hq;simp
      ·cases hq
     ·cases hq
   ·exact .inr hr
 |pair a b iha ihb=>
  intro ls p h
  have h':((A4 false σ.rows a ls).bind fun q=>(A4 false σ.rows b q.2.2).bind fun p=>some ((q.1,p.1),q.2.1++p.2.1,p.2.2))=some p:=by
   cases ls<;>simpa[A4]using h
  obtain⟨q,hq,h'⟩:=oB h'
  obtain⟨q2,hq2,h'⟩:=oB h'
  obtain rfl:=oI h'
  intro r hr
  rcases iha hq r hr with h1|h1
  ·exact .inl (zZ _ h1)
  ·rcases ihb hq2 r h1 with h2|h2
   ·exact .inl (zA1 _ h2)
   ·exact .inr h2
end
end Go.Proofs.Ytalmhjlcjcnidaa.Ev

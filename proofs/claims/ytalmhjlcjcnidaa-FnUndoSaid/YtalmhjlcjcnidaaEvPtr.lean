/- Calls that hand back a pointer: the caller behind the call. -/
import Derived.Test.YtalmhjlcjcnidaaEvIo2
set_option linter.all false
namespace Go.Proofs.Ytalmhjlcjcnidaa.Ev
open Go
section
variable {P:Program} {E:Env} {X:Ctx} {σ σ':St} {a:Act} {w w':World} {G:Gh}
theorem Sim.behindPtr (hs:Sim X σ a w G){S:Nat→Prop}{ow0:Nat→Option Nat}{own:List Nat}(how:∀q,ow0 q≠none→∃r∈own,G.rt q=some r)(hlive:∀r∈own,σ.live r)
  {out:AV} {v:Value} (hp:A1l S ow0 w w' true [] out v) (hS:∀q,S q→ow0 q=none) {dst:Option Nat} {f:Kd} {τ':St} (hτ':A6u σ dst own f out=some τ')
  (hI:(F5 out.leaves=true)→∀q,S q→Imm X σ w.heap G q):∃G',Sim X τ' (a.put dst v) w' G':=by
 classical
 obtain⟨hos,htape,hout,hsize,hframe,ow1,us,vo,h1,hRL,hall,hshape,_,ys,cs,b0,eout,hv,hvo,hpin⟩:=hp
 subst eout hv hvo
 unfold A6u at hτ'
 split at hτ'
 ·rename_i ls hout'
  injection hout' with hys
  subst hys
  cases hsz:Nat.beq ls.length f.size<;>simp only[hsz,zB,zA]at hτ'
  ·cases hτ'
  have hsz:=zN hsz
  obtain⟨τ,hτ,hτ'⟩:=oB hτ'
  obtain rfl:=oI hτ'
  have hL:(AV.tup [TV.agg ls]).leaves=ls:=by simp[AV.leaves,TV.leaves]
  rw[hL]at hRL hall hpin hI
  obtain⟨vs',e2,u1,u2,vx,vs2,e3,e4,hsh,hnil⟩:=hshape
  obtain⟨rfl,rfl⟩:=hnil
  have e2':cs=vs':=by simpa using e2
  subst e2'
  rw[zH1]at e3
  subst e3 e4
  obtain⟨c,cs',ec,hnil2,hpc⟩:=hpin
  obtain⟨rfl,rfl⟩:=List.cons.inj ec
  obtain⟨b,arr,ty,fr,p1,p2,p3,p4,p5⟩:∃(b:Nat) (arr:Array Value) (e:TypeId) (fr:Nat×Nat),Value.pointer (some ⟨b0,0,none⟩)= .pointer (some ⟨b,0,none⟩)∧w'.heap[b]?=some (.cells arr e fr)∧NF fr arr.size∧vx= .agg arr∧ow1 b=some ls.length:=by
   rcases hpc with⟨⟨_,_,_,h⟩,_⟩|h
   ·cases h
   ·exact h
  obtain rfl:b0=b:=by simpa using p1
  subst p4
  obtain⟨harr,hul⟩:=hsh
  have harr:arr=us.toArray:=by simpa using harr
  subst harr
  obtain⟨k1,k2,k3,k4,k5⟩:=B2 hτ
  have hrow:∀p,p∈(instLeaves dst 0 ls).2↔∃n f xs,ls[n]?=some (.od f xs)∧p=(key dst n,.data f xs):=by
   intro p;rw[instLeaves_rows];simp
  have hbox:τ.look (key dst 63)=some (.box f (instLeaves dst 0 ls).1)∧(σ.kill own).look (key dst 63)=none:=by
   have:=k3 (key dst 63,.box f (instLeaves dst 0 ls).1) (zA1 _ (zF1.mpr rfl))
   exact⟨this.2,this.1⟩
  have hdat:∀j g xs,ls[j]?=some (.od g xs)→τ.look (key dst j)=some (.data g xs)∧(σ.kill own).look (key dst j)=none:=by
   intro j g xs hj
   have:=k3 (key dst j,.data g xs) (zZ _ ((hrow _).mpr ⟨j,g,xs,hj,rfl⟩))
   exact⟨this.2,this.1⟩
  have h63:∀j g xs,ls[j]?=some (.od g xs)→j≠63:=by
   rintro j g xs hj rfl
   have:=(hdat 63 g xs hj).1
   rw[hbox.1]at this;cases this
  let isNew:Nat→Prop:=fun r=>(∃j,r=key dst j∧∃f xs,ls[j]?=some (.od f xs))∨r=key dst 63
  have hnewl:∀r,isNew r→σ.look r=none:=by
   have hk:∀r,(σ.kill own).look r=none→σ.look r=none:=by
    intro r h
    rw[A9]at h
    split at h
    ·cases h
    ·exact h
   rintro r (⟨j,rfl,g,xs,hj⟩|rfl)
   ·exact hk _ (hdat j g xs hj).2
   ·exact hk _ hbox.2
  have hold:∀r,¬isNew r→τ.look r=if r∈own then some .dead else σ.look r:=by
   intro r hr
   rw[k4 r,A9]
   intro p hp e
   rcases zY.mp hp with hp|hp
   ·obtain⟨n,g,xs,hn,rfl⟩:=(hrow p).mp hp
    exact hr (.inl ⟨n,e.symm,g,xs,hn⟩)
   ·rw[zF1]at hp
    subst hp
    exact hr (.inr e.symm)
  let tgt:Nat→Nat:=fun j=>if j=ls.length then key dst 63 else key dst j
  let G':Gh:={
   rt:=fun q=>if q<w.heap.size∧ow0 q=none then(match G.rt q with
     |some r=>if σ.look r=none then none else some r
     |none=>none)else match ow1 q with
     |some j=>if X.deep=true∨(∃c m,us.getD j undef= .slice (some ⟨q,0,none⟩) c m)∨j=ls.length then some (tgt j)else none
     |none=>none
   hv:=fun r=>if r=key dst 63 then .pointer (some ⟨b0,0,none⟩)else if h:∃j,r=key dst j∧∃f xs,ls[j]?=some (.od f xs)then us.getD (Classical.choose h) undef else G.hv r}
  have hhv:∀j f xs,ls[j]?=some (.od f xs)→G'.hv (key dst j)=us.getD j undef:=by
   intro j g xs hj
   have hn:∃j',key dst j=key dst j'∧∃f xs,ls[j']?=some (.od f xs):=⟨j,rfl,g,xs,hj⟩
   show(if key dst j=key dst 63 then _ else if h:∃j',key dst j=key dst j'∧∃f xs,ls[j']?=some (.od f xs)then us.getD (Classical.choose h) undef else G.hv (key dst j))=_
   rw[if_neg fun h=>h63 j g xs hj (key_inj h),dif_pos hn]
   have:=(Classical.choose_spec hn).1
   rw[←key_inj this]
  have hhvb:G'.hv (key dst 63)= .pointer (some ⟨b0,0,none⟩):=if_pos rfl
  have hhv2:∀r,¬isNew r→G'.hv r=G.hv r:=by
   intro r hr
   show(if r=key dst 63 then _ else if h:∃j,r=key dst j∧∃f xs,ls[j]?=some (.od f xs)then us.getD (Classical.choose h) undef else G.hv r)=_
   rw[if_neg fun h=>hr (.inr h),dif_neg fun h=>hr (.inl h)]
  have hrtOld:∀q,q<w.heap.size→ow0 q=none→G'.rt q=match G.rt q with
     |some r=>if σ.look r=none then none else some r
     |none=>none:=by
   intro q hq h0
   show(if q<w.heap.size∧ow0 q=none then _ else _)=_
   rw[if_pos ⟨hq,h0⟩]
  have hrtNew:∀q,¬(q<w.heap.size∧ow0 q=none)→G'.rt q=match ow1 q with
     |some j=>if X.deep=true∨(∃c m,us.getD j undef= .slice (some ⟨q,0,none⟩) c m)∨j=ls.length then some (tgt j)else none
     |none=>none:=by
   intro q hq
   show(if q<w.heap.size∧ow0 q=none then _ else _)=_
   rw[if_neg hq]
  have hliveOld:∀q r,q<w.heap.size→ow0 q=none→G'.rt q=some r→τ.live r→G.rt q=some r∧σ.live r:=by
   intro q r hq h0 hr hl
   rw[hrtOld q hq h0]at hr
   cases hg:G.rt q with
   |none=>rw[hg]at hr;cases hr
   |some r0=>
    rw[hg]at hr
    dsimp only at hr
    split at hr
    ·cases hr
    ·rename_i hne
     obtain rfl:=oI hr
     refine⟨rfl,?_⟩
     obtain⟨row,h2,h3⟩:=hl
     rw[hold r0 fun h=>hne (hnewl r0 h)]at h2
     split at h2
     ·exact absurd (oI h2).symm h3
     ·exact⟨row,h2,h3⟩
  have hA:∀q,ow0 q≠none→q<X.w0.heap.size→X.A q:=by
   intro q hq hlt
   obtain⟨r,hr,e⟩:=how q hq
   exact hs.ownA q r e (hlive r hr) hlt
  have himmNew:∀q,q<w'.heap.size→(w.heap.size≤q∨ow0 q≠none)→(∀r,G'.rt q=some r→¬τ.live r)→Imm X τ w'.heap G' q:=by
   intro q hq hor hno
   refine⟨hq,?_,hno⟩
   have:=hs.size
   by_cases h:X.w0.heap.size≤q
   ·exact .inr (.inr h)
   ·rcases hor with h'|h'
    ·omega
    ·exact .inr (.inl (hA q h' (by omega)))
  have hisNo:∀q,(w.heap.size≤q∨ow0 q≠none)→¬(q<w.heap.size∧ow0 q=none):=fun q h ⟨h4,h5⟩=>h.elim (fun h=>by omega) (fun h=>h h5)
  have hleaves:A7 (A5 X τ w'.heap G') (instLeaves dst 0 ls).1 us:=by
   have hmem:F0 (fun j l v=>(ls[j]?=some l∧us[j]?=some v)∧LA (fun q=>q<w'.heap.size∧(S q∨ow0 q≠none∨w.heap.size≤q)∧ow1 q=none) ow1 w'.heap j l v) 0 ls us:=
    F0.of hall.length fun m l v h2 h3=>by
     rw[zS]
     obtain⟨v',h4,h5⟩:=hall.get h2
     rw[h3]at h4;obtain rfl:=oI h4
     rw[zS]at h5
     exact⟨⟨h2,h3⟩,h5⟩
   refine inst_all (fun j g xs u hh=>?_) (fun j l u hno hh=>?_) hmem
   ·obtain⟨⟨e1,e2⟩,hc⟩:=hh
    refine⟨A2.one hc,fun f' xs' _=>?_⟩
    rw[hhv j g xs e1];simp[List.getD,e2]
   ·obtain⟨⟨e1,e2⟩,hc⟩:=hh
    have hr:=hRL l (List.mem_of_getElem? e1)
    cases l with
    |int=>exact hc
    |bool=>exact hc
    |str=>exact hc
    |sh g xs=>
     have hsh:F5 ls=true:=by
      cases hb:F5 ls
      ·exact absurd rfl (X8 hb _ (List.mem_of_getElem? e1) g xs)
      ·rfl
     refine A2.mono (fun q hq=>?_) hc
     obtain⟨h2,h3,h4⟩:=hq
     by_cases hin:q<w.heap.size∧ow0 q=none
     ·have hSq:S q:=by
       rcases h3 with h3|h3|h3
       ·exact h3
       ·exact absurd hin.2 h3
       ·omega
      obtain⟨i1,i2,i3⟩:=hI hsh q hSq
      refine⟨h2,i2,fun r hr hl=>?_⟩
      obtain⟨h5,h6⟩:=hliveOld q r hin.1 hin.2 hr hl
      exact i3 r h5 h6
     ·refine himmNew q h2 ?_ fun r hr=>?_
      ·by_cases h:w.heap.size≤q
       ·exact .inl h
       ·exact .inr fun e=>hin ⟨by omega,e⟩
      ·rw[hrtNew q hin,h4]at hr;cases hr
    |od g xs=>exact absurd rfl (hno g xs)
    |undef=>exact hc.elim
    |nil=>exact hc.elim
    |ow=>exact hc.elim
    |sub=>exact hc.elim
    |pa=>exact hc.elim
    |ptr=>exact hc.elim
    |spt=>exact hr.elim
    |clo=>exact hr.elim
  have hrefs:∀(l2:List A0) (j:Nat),(∀m l,l2[m]?=some l→ls[j+m]?=some l)→∀r∈(instLeaves dst j l2).1.flatMap A0.refs,∃row,τ.look r=some row:=by
   intro l2
   induction l2 with
   |nil=>intro j _ r hr;simp[instLeaves]at hr
   |cons l l2 ih=>
    intro j hm r hr
    have m1:=hm 0 l rfl
    have ih':=ih (j+1) fun m l' h=>by
     have:=hm (m+1) l' (by simpa using h)
     rwa[show j+(m+1)=j+1+m by omega]at this
    obtain⟨x,hx,hrel⟩:=hall.get m1
    have hR:=hRL l (List.mem_of_getElem? m1)
    cases l<;>simp only[instLeaves,zV,zY]at hr
    case od g xs=>
     rcases hr with hr|hr
     ·simp[A0.refs]at hr;subst hr
      exact⟨_,(hdat j g xs m1).1⟩
     ·exact ih' r hr
    case int=>exact ih' r (hr.resolve_left (by simp[A0.refs]))
    case bool=>exact ih' r (hr.resolve_left (by simp[A0.refs]))
    case str=>exact ih' r (hr.resolve_left (by simp[A0.refs]))
    case sh=>exact ih' r (hr.resolve_left (by simp[A0.refs]))
    case spt=>exact hR.elim
    case clo=>exact hR.elim
    all_goals exact hrel.elim
  have hstep:Sim X τ a w' G':=by
   refine hs.step k1 k2 hsize hos htape hout (fun q hq hno=>hframe q hq ?_) ?_ ?_ ?_ ?_
   ·cases h0:ow0 q with
    |none=>rfl
    |some j=>
     obtain⟨r,hr,e⟩:=how q (by rw[h0];simp)
     exact absurd (hlive r hr) (hno r e)
   ·intro q r hr hl hq
    cases h0:ow0 q with
    |none=>exact⟨r,hliveOld q r hq h0 hr hl⟩
    |some j=>
     obtain⟨r0,hr0,e⟩:=how q (by rw[h0];simp)
     exact⟨r0,e,hlive r0 hr0⟩
   ·intro q r hr
    by_cases hq:q<w.heap.size∧ow0 q=none
    ·omega
    ·rw[hrtNew q hq]at hr
     cases hg:ow1 q with
     |none=>rw[hg]at hr;cases hr
     |some j=>exact(h1 q j hg).1
   ·intro r row hr
    have:∃row',(σ.kill own).look r=some row':=by
     rw[A9];split
     ·exact⟨_,rfl⟩
     ·exact⟨_,hr⟩
    obtain⟨row',h'⟩:=this
    exact⟨row',k5 r row' h'⟩
   ·intro r row' hr
    by_cases hn:isNew r
    ·right
     have hnl:=hnewl r hn
     rcases hn with⟨j,rfl,g,xs,hj⟩|rfl
     ·rw[(hdat j g xs hj).1]at hr
      obtain rfl:=oI hr
      refine⟨?_,fun f ls e=>(by cases e),fun row h=>(by rw[hnl]at h;cases h)⟩
      obtain⟨u,hu,hrel⟩:=hall.get hj
      rw[zS]at hrel
      have hgu:us.getD j undef=u:=by simp[List.getD,hu]
      have hjl:=(List.getElem?_eq_some_iff.mp hj).1
      refine A6d hrel (by rw[hhv j g xs hj,hgu]) (fun q hq hor=>?_) (fun hd q hq hor=>?_)
      ·obtain⟨h2,h3⟩:=h1 q j hq
       rw[hrtNew q (hisNo q h3),hq]
       dsimp only
       rw[hgu,if_pos (hor.elim .inl fun h=> .inr (.inl h))]
       show some (if j=ls.length then _ else _)=_
       rw[if_neg (by omega)]
      ·obtain⟨h2,h3⟩:=h1 q j hq
       refine himmNew q h2 h3 fun r hr=>?_
       rw[hrtNew q (hisNo q h3),hq]at hr
       dsimp only at hr
       rw[hgu,if_neg (by rw[hd];simp only[Bool.false_eq_true,false_or,not_or];exact⟨hor,by omega⟩)]at hr
       cases hr
     ·rw[hbox.1]at hr
      obtain rfl:=oI hr
      refine⟨⟨b0,us.toArray,ty,fr,hhvb,?_,p2,p3,by rw[instLeaves_len];exact hsz,by simpa using hleaves⟩,fun f' ls'' e' q hq=>?_,fun row h=>(by rw[hnl]at h;cases h)⟩
      ·rw[hrtNew b0 (hisNo b0 (h1 b0 _ p5).2),p5]
       dsimp only
       rw[if_pos (.inr (.inr rfl))]
       show some (if ls.length=ls.length then _ else _)=_
       rw[if_pos rfl]
      ·injection e' with e1 e2
       subst e1 e2
       exact hrefs ls 0 (fun m l h=>by rw[zS];exact h) q hq
    ·rw[hold r hn]at hr
     split at hr
     ·obtain rfl:=oI hr
      exact .inr ⟨trivial,fun f ls e=>(by cases e),fun row0 h0=>⟨by cases row0<;>trivial,fun h=>absurd rfl h⟩⟩
     ·rename_i hno
      refine .inl ⟨hr,hhv2 r hn,fun _ q hq=>?_⟩
      have hlt:=hs.lt q r hq
      have h0:ow0 q=none:=by
       cases h0:ow0 q with
       |none=>rfl
       |some j=>
        obtain⟨r0,hr0,e⟩:=how q (by rw[h0];simp)
        rw[hq]at e;obtain rfl:=oI e
        exact absurd hr0 hno
      refine⟨?_,hframe q hlt h0⟩
      rw[hrtOld q hlt h0,hq]
      dsimp only
      rw[if_neg (by rw[hr];simp)]
  refine⟨G',hstep.put (.inr ⟨rfl,fun f' xs' h=>?_,fun f' ls' h=>⟨b0,hhvb,rfl⟩⟩) fun r hr=>?_⟩
  ·exact(St.dat_box hbox.1 h).elim
  ·simp only[AV.refs,AV.leaves,TV.leaves,zV,List.flatMap_nil,A0.refs,zH1,zF1]at hr
   subst hr
   exact⟨_,hbox.1⟩
 ·cases hτ'
end
end Go.Proofs.Ytalmhjlcjcnidaa.Ev

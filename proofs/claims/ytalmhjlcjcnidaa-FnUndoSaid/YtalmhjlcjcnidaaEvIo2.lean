/- Calls whose arguments come back changed: behind the call. -/
import Derived.Test.YtalmhjlcjcnidaaEvIo
set_option linter.all false
namespace Go.Proofs.Ytalmhjlcjcnidaa.Ev
open Go
section
variable {P:Program} {E:Env} {X:Ctx} {σ σ':St} {a:Act} {w w':World} {G:Gh}
theorem B18 {α:Type}{l:List α}{n:Nat}(h:n≤l.length):(l.take (l.length - n)).length=l.length - n∧(l.drop (l.length - n)).length=n:=by
 simp;omega
theorem instLeaves_len (dst:Option Nat):∀(ls:List A0) (z:Nat),(instLeaves dst z ls).1.length=ls.length
 |[],z=>rfl
 |l::ls,z=>by cases l<;>simp[instLeaves,instLeaves_len dst ls]
theorem Sim.behindIo (hs:Sim X σ a w G){S:Nat→Prop}{ow0:Nat→Option Nat}{own:List Nat}{ios:List (Nat×Option (Nat×Nat))}(how:∀q,ow0 q≠none→∃r∈own,G.rt q=some r)(hlive:∀r∈own,σ.live r)
  {PS:Nat→Nat→Prop} (hps:∀r i c q,(r,some (i,c))∈ios→G.rt q=some r→ow0 q≠none→PS r q)
  {pv:List Value} {res yio:List TV} {v:Value} (hp:A1l S ow0 w w' false pv (.tup (res++yio)) v) (hS:∀q,S q→ow0 q=none) {dst:Option Nat} {ups news:List (Nat×A6)} {σ3:St}
  (hios:A7 (U3 X σ w.heap G PS) ios pv) (hne:ios≠[]) (hsub:∀r∈ios.map (·.1),r∈own) (hdist:distinct (ios.map (·.1))=true) (hnopa:∀r∈ios.map (·.1),∀f xs,σ.look r=some (.data f xs)→A06 σ r)
  (hups:S1 σ dst (res.flatMap TV.leaves).length ios yio=some (ups,news)) (hτ:(σ.kill own).addRows ((instTVs dst 0 res).2++news)=some σ3)
  (hI:(F5 (AV.tup (res++yio)).leaves=true)→∀q,S q→Imm X σ w.heap G q):∃G',Sim X ((setUps σ3 ups).put dst (instAV dst (A2n res)).1) (a.put dst v) w' G':=by
 classical
 obtain⟨hos,htape,hout,hsize,hframe,ow1,us,vo,h1,hRL,hall,hshape,hjoin⟩:=hp
 have hpv:pv≠[]:=by
  rintro rfl;cases hios;exact hne rfl
 obtain⟨ys,rs,cs,eys,hv,hvo,hpin⟩:=(hjoin.resolve_left fun h=>hpv h.1).2
 subst hvo
 obtain⟨vs',e2,hsh⟩:=hshape
 have e2':rs++cs=vs':=by simpa using e2
 subst e2'
 clear e2 eys
 obtain⟨hul,hu1,hu2,hu3⟩:=A36 hups
 obtain⟨hpl,hpg⟩:=hpin.get
 have hiol:=hios.length
 obtain⟨htl,htu⟩:=hsh.lens
 have hrl:res.length=rs.length:=by simp at htl;omega
 obtain⟨us1,us2,rfl,hsh1,hsh2⟩:=E5.split hrl hsh
 obtain⟨_,hus1⟩:=hsh1.lens
 obtain⟨k1,k2,k3,k4,k5⟩:=B2 hτ
 rw[(instTVs_leaves dst res 0).2]at k3 k4
 have hL:(AV.tup (res++yio)).leaves=res.flatMap TV.leaves++yio.flatMap TV.leaves:=by simp[AV.leaves]
 generalize hLL:(AV.tup (res++yio)).leaves=LL at*
 generalize hus:us1++us2=us at*
 have hLn:(res.flatMap TV.leaves).length+(yio.flatMap TV.leaves).length≤LL.length:=by rw[hL];simp
 let io:Nat→Option Nat:=N1 LL.length (res.flatMap TV.leaves).length 0 (ios.map (·.1)) yio
 have hget1:∀{i:Nat} {r:Nat×Option (Nat×Nat)},ios[i]?=some r→(ios.map (·.1))[i]?=some r.1:=fun h=>by rw[List.getElem?_map,h];rfl
 let τ:=setUps σ3 ups
 let isNew:Nat→Prop:=fun r=>∃j,r=key dst j∧j<LL.length∧io j=none∧∃f xs,LL[j]?=some (.od f xs)∧(key dst j,A6.data f xs)∈(instLeaves dst 0 (res.flatMap TV.leaves)).2++news
 have hposR:∀j l,(res.flatMap TV.leaves)[j]?=some l→LL[j]?=some l∧j<LL.length∧io j=none∧us[j]?=us1[j]?:=by
  intro j l hj
  have hlt:=(List.getElem?_eq_some_iff.mp hj).1
  refine⟨by rw[hL,List.getElem?_append_left hlt];exact hj,by omega,A18 hlt (by omega),?_⟩
  rw[←hus,List.getElem?_append_left (by omega)]
 have hposI:∀i y m l,yio[i]?=some y→y.leaves[m]?=some l→LL[(res.flatMap TV.leaves).length+K4 yio i+m]?=some l∧(res.flatMap TV.leaves).length+K4 yio i+m<LL.length:=by
  intro i y m l hy hl
  have h2:=A7k hy hl
  have h3:=(List.getElem?_eq_some_iff.mp h2).1
  refine⟨?_,by omega⟩
  rw[hL,List.getElem?_append_right (by omega),Nat.add_assoc,Nat.add_sub_cancel_left];exact h2
 have haddNew:∀p∈(instLeaves dst 0 (res.flatMap TV.leaves)).2++news,∃j f xs,p=(key dst j,.data f xs)∧j<LL.length∧io j=none∧LL[j]?=some (.od f xs):=by
  intro p hp
  rcases zY.mp hp with h|h
  ·obtain⟨n,f,xs,hn,rfl⟩:=(instLeaves_rows dst _ _ p).mp h
   rw[zS]
   obtain⟨a1,a2,a3,_⟩:=hposR n _ hn
   exact⟨n,f,xs,rfl,a2,a3,a1⟩
  ·obtain⟨i,r,ls',e1,e2,e3⟩:=hu3 p h
   obtain⟨n,f,xs,hn,rfl⟩:=(instLeaves_rows dst _ _ p).mp e3
   obtain⟨a1,a2⟩:=hposI i _ n _ e2 hn
   have a3:=(A17 (L:=LL.length) (ios:=ios.map (·.1)) (ys:=yio) (j:=(res.flatMap TV.leaves).length) (i:=0) hLn (hget1 e1) e2).2 n (List.getElem?_eq_some_iff.mp hn).1
   exact⟨_,f,xs,rfl,a2,a3,a1⟩
 have hnewl:∀r,isNew r→σ.look r=none∧r∉ios.map (·.1):=by
  rintro r ⟨j,rfl,_,_,f,xs,_,hj⟩
  have:=(k3 _ hj).1
  rw[A9]at this
  split at this
  ·cases this
  ·rename_i hno
   exact⟨this,fun hc=>hno (hsub _ hc)⟩
 have hτnew:∀j f xs,LL[j]?=some (.od f xs)→(key dst j,A6.data f xs)∈(instLeaves dst 0 (res.flatMap TV.leaves)).2++news→τ.look (key dst j)=some (.data f xs):=by
  intro j f xs hj hm
  have hnl:(key dst j)∉ios.map (·.1):=by
   intro hc
   have:=(k3 _ hm).1
   rw[A9,if_pos (hsub _ hc)]at this
   cases this
  rw[(H7 (σ:=σ3)).1 (by rw[hu1];exact hnl)]
  exact(k3 _ hm).2
 have hτio:∀r row,(r,row)∈ups→τ.look r=some row:=fun r row h=>(H7 (σ:=σ3)).2 (by rw[hu1];exact hdist) row h
 have hold:∀r,¬isNew r→r∉ios.map (·.1)→τ.look r=if r∈own then some .dead else σ.look r:=by
  intro r hr hio
  rw[(H7 (σ:=σ3)).1 (by rw[hu1];exact hio),k4 r,A9]
  intro p hp e
  obtain⟨j,f,xs,rfl,a1,a2,a3⟩:=haddNew p hp
  exact hr ⟨j,e.symm,a1,a2,f,xs,a3,hp⟩
 let tgt:Nat→Nat:=fun j=>(io j).getD (key dst j)
 let G':Gh:={
  rt:=fun q=>if q<w.heap.size∧ow0 q=none then(match G.rt q with
    |some r=>if σ.look r=none then none else some r
    |none=>none)else match ow1 q with
    |some j=>if X.deep=true∨(∃c m,us.getD j undef= .slice (some ⟨q,0,none⟩) c m)∨LL.length≤j then some (tgt j)else none
    |none=>none
  hv:=fun r=>if h:isNew r then us.getD (Classical.choose h) undef else G.hv r}
 have hhv:∀j,isNew (key dst j)→G'.hv (key dst j)=us.getD j undef:=by
  intro j hn
  show(if h:isNew (key dst j)then us.getD (Classical.choose h) undef else G.hv (key dst j))=_
  rw[dif_pos hn]
  have:=(Classical.choose_spec hn).1
  rw[←key_inj this]
 have hhv2:∀r,¬isNew r→G'.hv r=G.hv r:=by
  intro r hr
  show(if h:isNew r then us.getD (Classical.choose h) undef else G.hv r)=_
  rw[dif_neg hr]
 have hrtOld:∀q,q<w.heap.size→ow0 q=none→G'.rt q=match G.rt q with
    |some r=>if σ.look r=none then none else some r
    |none=>none:=by
  intro q hq h0
  show(if q<w.heap.size∧ow0 q=none then _ else _)=_
  rw[if_pos ⟨hq,h0⟩]
 have hrtNew:∀q,¬(q<w.heap.size∧ow0 q=none)→G'.rt q=match ow1 q with
    |some j=>if X.deep=true∨(∃c m,us.getD j undef= .slice (some ⟨q,0,none⟩) c m)∨LL.length≤j then some (tgt j)else none
    |none=>none:=by
  intro q hq
  show(if q<w.heap.size∧ow0 q=none then _ else _)=_
  rw[if_neg hq]
 have hioLive:∀r∈ios.map (·.1),σ.live r:=fun r hr=>hlive r (hsub r hr)
 have hliveOld:∀q r,q<w.heap.size→ow0 q=none→G'.rt q=some r→τ.live r→G.rt q=some r∧σ.live r:=by
  intro q r hq h0 hr hl
  rw[hrtOld q hq h0]at hr
  cases hg:G.rt q with
  |none=>rw[hg]at hr;cases hr
  |some r0=>
   rw[hg]at hr
   dsimp only at hr
   split at hr
   ·cases hr
   ·rename_i hne
    obtain rfl:=oI hr
    refine⟨rfl,?_⟩
    by_cases hio:r0∈ios.map (·.1)
    ·exact hioLive r0 hio
    ·obtain⟨row,h2,h3⟩:=hl
     rw[hold r0 (fun h=>hne (hnewl r0 h).1) hio]at h2
     split at h2
     ·exact absurd (oI h2).symm h3
     ·exact⟨row,h2,h3⟩
 have hA:∀q,ow0 q≠none→q<X.w0.heap.size→X.A q:=by
  intro q hq hlt
  obtain⟨r,hr,e⟩:=how q hq
  exact hs.ownA q r e (hlive r hr) hlt
 have himmNew:∀q,q<w'.heap.size→(w.heap.size≤q∨ow0 q≠none)→(∀r,G'.rt q=some r→¬τ.live r)→Imm X τ w'.heap G' q:=by
  intro q hq hor hno
  refine⟨hq,?_,hno⟩
  have:=hs.size
  by_cases h:X.w0.heap.size≤q
  ·exact .inr (.inr h)
  ·rcases hor with h'|h'
   ·omega
   ·exact .inr (.inl (hA q h' (by omega)))
 have hisNo:∀q,(w.heap.size≤q∨ow0 q≠none)→¬(q<w.heap.size∧ow0 q=none):=fun q h ⟨h4,h5⟩=>h.elim (fun h=>by omega) (fun h=>h h5)
 have hrowIn:∀j f xs u n,LL[j]?=some (.od f xs)→us[j]?=some u→tgt j=n→G'.hv n=u→E7 X τ w'.heap G' n (.data f xs):=by
  intro j f xs u n hj hu hn hgv
  obtain⟨u',hu',hrel⟩:=hall.get hj
  rw[hu]at hu';obtain rfl:=oI hu'
  rw[zS]at hrel
  have hgu:us.getD j undef=u:=by simp[List.getD,hu]
  refine A6d hrel hgv (fun q hq hor=>?_) (fun hd q hq hor=>?_)
  ·obtain⟨h2,h3⟩:=h1 q j hq
   rw[hrtNew q (hisNo q h3),hq]
   dsimp only
   rw[hgu,if_pos (hor.elim .inl fun h=> .inr (.inl h)),hn]
  ·obtain⟨h2,h3⟩:=h1 q j hq
   refine himmNew q h2 h3 fun r hr=>?_
   rw[hrtNew q (hisNo q h3),hq]at hr
   dsimp only at hr
   have hjl:=(List.getElem?_eq_some_iff.mp hj).1
   rw[hgu,if_neg (by rw[hd];simp only[Bool.false_eq_true,false_or,not_or];exact⟨hor,by omega⟩)]at hr
   cases hr
 have hleafJ:∀j l u,LL[j]?=some l→us[j]?=some u→(∀f xs,l= .od f xs→io j=none∧(key dst j,A6.data f xs)∈(instLeaves dst 0 (res.flatMap TV.leaves)).2++news)→
   A5 X τ w'.heap G' (match l with| .od _ _=> .ow (key dst j)|l=>l) u:=by
  intro j l u hj hu hod
  obtain⟨u',hu',hrel⟩:=hall.get hj
  rw[hu]at hu';obtain rfl:=oI hu'
  rw[zS]at hrel
  have hr:=hRL l (List.mem_of_getElem? hj)
  cases l with
  |int=>exact hrel
  |bool=>exact hrel
  |str=>exact hrel
  |sh f xs=>
   have hsh:F5 LL=true:=by
    cases hb:F5 LL
    ·exact absurd rfl (X8 hb _ (List.mem_of_getElem? hj) f xs)
    ·rfl
   refine A2.mono (fun q hq=>?_) hrel
   obtain⟨h2,h3,h4⟩:=hq
   by_cases hin:q<w.heap.size∧ow0 q=none
   ·have hSq:S q:=by
     rcases h3 with h3|h3|h3
     ·exact h3
     ·exact absurd hin.2 h3
     ·omega
    obtain⟨i1,i2,i3⟩:=hI hsh q hSq
    refine⟨h2,i2,fun r hr hl=>?_⟩
    obtain⟨h5,h6⟩:=hliveOld q r hin.1 hin.2 hr hl
    exact i3 r h5 h6
   ·refine himmNew q h2 ?_ fun r hr=>?_
    ·by_cases h:w.heap.size≤q
     ·exact .inl h
     ·exact .inr fun e=>hin ⟨by omega,e⟩
    ·rw[hrtNew q hin,h4]at hr;cases hr
  |od f xs=>
   obtain⟨o1,o2⟩:=hod f xs rfl
   refine⟨A2.one hrel,fun f' xs' hlk=>?_⟩
   rw[hhv j ⟨j,rfl,(List.getElem?_eq_some_iff.mp hj).1,o1,f,xs,hj,o2⟩]
   simp[List.getD,hu]
  |undef=>exact hrel.elim
  |nil=>exact hrel.elim
  |ow=>exact hrel.elim
  |sub=>exact hrel.elim
  |pa=>exact hrel.elim
  |ptr=>exact hrel.elim
  |spt=>exact hr.elim
  |clo=>exact hr.elim
 have hinst:∀(ls:List A0) (u:List Value) (j:Nat),ls.length=u.length→(∀m l x,ls[m]?=some l→u[m]?=some x→A5 X τ w'.heap G' (match l with|A0.od _ _=>A0.ow (key dst (j+m))|l=>l) x)→A7 (A5 X τ w'.heap G') (instLeaves dst j ls).1 u:=by
  intro ls
  induction ls with
  |nil=>
    intro u j hl _;cases u with
    |nil=>exact .nil
    |cons=>simp at hl
  |cons l ls ih=>
   intro u j hl hm
   cases u with
   |nil=>simp at hl
   |cons x u=>
    have h0:=hm 0 l x rfl rfl
    have ih':=ih u (j+1) (by simpa using hl) fun m l' x' h2 h3=>by
     have:=hm (m+1) l' x' (by simpa using h2) (by simpa using h3)
     rwa[show j+(m+1)=j+1+m by omega]at this
    cases l<;>simp only[instLeaves]<;>exact .cons h0 ih'
 have hrefs:∀(ls:List A0) (j:Nat),(∀m l,ls[m]?=some l→LL[j+m]?=some l∧∀f xs,l= .od f xs→(key dst (j+m),A6.data f xs)∈(instLeaves dst 0 (res.flatMap TV.leaves)).2++news)→∀r∈(instLeaves dst j ls).1.flatMap A0.refs,∃row,τ.look r=some row:=by
  intro ls
  induction ls with
  |nil=>intro j _ r hr;simp[instLeaves]at hr
  |cons l ls ih=>
   intro j hm r hr
   obtain⟨m1,m2⟩:=hm 0 l rfl
   have ih':=ih (j+1) fun m l' h=>by
    have:=hm (m+1) l' (by simpa using h)
    rwa[show j+(m+1)=j+1+m by omega]at this
   obtain⟨x,hx,hrel⟩:=hall.get m1
   have hR:=hRL l (List.mem_of_getElem? m1)
   cases l<;>simp only[instLeaves,zV,zY]at hr
   case od f xs=>
    rcases hr with hr|hr
    ·simp[A0.refs]at hr;subst hr
     exact⟨_,hτnew j f xs m1 (m2 f xs rfl)⟩
    ·exact ih' r hr
   case int=>exact ih' r (hr.resolve_left (by simp[A0.refs]))
   case bool=>exact ih' r (hr.resolve_left (by simp[A0.refs]))
   case str=>exact ih' r (hr.resolve_left (by simp[A0.refs]))
   case sh=>exact ih' r (hr.resolve_left (by simp[A0.refs]))
   case spt=>exact hR.elim
   case clo=>exact hR.elim
   all_goals exact hrel.elim
 have hresM:∀m l,(res.flatMap TV.leaves)[m]?=some l→∀f xs,l= .od f xs→(key dst m,A6.data f xs)∈(instLeaves dst 0 (res.flatMap TV.leaves)).2++news:=by
  rintro m l hm f xs rfl
  exact zZ _ ((instLeaves_rows dst _ 0 _).mpr ⟨m,f,xs,hm,by rw[zS]⟩)
 have hstep:Sim X τ a w' G':=by
  refine hs.step (by show(setUps σ3 ups).slots=_;rw[(L5 ups σ3).1,k1];rfl) (by show(setUps σ3 ups).pins=_;rw[(L5 ups σ3).2,k2];rfl) hsize hos htape hout (fun q hq hno=>hframe q hq ?_) ?_ ?_ ?_ ?_
  ·cases h0:ow0 q with
   |none=>rfl
   |some j=>
    obtain⟨r,hr,e⟩:=how q (by rw[h0];simp)
    exact absurd (hlive r hr) (hno r e)
  ·intro q r hr hl hq
   cases h0:ow0 q with
   |none=>exact⟨r,hliveOld q r hq h0 hr hl⟩
   |some j=>
    obtain⟨r0,hr0,e⟩:=how q (by rw[h0];simp)
    exact⟨r0,e,hlive r0 hr0⟩
  ·intro q r hr
   by_cases hq:q<w.heap.size∧ow0 q=none
   ·omega
   ·rw[hrtNew q hq]at hr
    cases hg:ow1 q with
    |none=>rw[hg]at hr;cases hr
    |some j=>exact(h1 q j hg).1
  ·intro r row hr
   by_cases hio:r∈ios.map (·.1)
   ·obtain⟨rp,hrp,rfl⟩:=List.mem_map.mp hio
    obtain⟨i,hi⟩:=List.getElem?_of_mem hrp
    have hil:=(List.getElem?_eq_some_iff.mp hi).1
    obtain⟨row',hm,_⟩:=hu2 hi (List.getElem?_eq_getElem (show i<yio.length by omega))
    exact⟨row',hτio _ row' hm⟩
   ·by_cases hn:isNew r
    ·rw[(hnewl r hn).1]at hr;cases hr
    ·rw[hold r hn hio]
     split
     ·exact⟨_,rfl⟩
     ·exact⟨_,hr⟩
  ·intro r row' hr
   by_cases hio:r∈ios.map (·.1)
   ·right
    have hnn:¬isNew r:=fun h=>(hnewl r h).2 hio
    obtain⟨⟨r',pl⟩,hrp,hre⟩:=List.mem_map.mp hio
    obtain rfl:r=r':=hre.symm
    obtain⟨i,hi⟩:=List.getElem?_of_mem hrp
    have hil:=(List.getElem?_eq_some_iff.mp hi).1
    have hyi:=List.getElem?_eq_getElem (show i<yio.length by omega)
    obtain⟨A2r,hm,hcase⟩:=hu2 hi hyi
    rw[hτio r A2r hm]at hr
    obtain rfl:=oI hr
    obtain⟨v0,hv0,hrow0⟩:=hios.get hi
    obtain⟨c0,hc0,hpc⟩:=hpg hv0
    obtain⟨v3,u3,t1,t2,t3,t4⟩:=A8j hsh2 hyi
    rw[hc0]at t1;obtain rfl:=oI t1
    have husI:∀m x,u3[m]?=some x→us[(res.flatMap TV.leaves).length+K4 yio i+m]?=some x:=by
     intro m x hx
     rw[←hus,List.getElem?_append_right (by omega),←hus1,Nat.add_assoc,Nat.add_sub_cancel_left]
     exact t4 m x hx
    rcases hcase with⟨hpl',f,xs,xs',e1,e2,rfl⟩|⟨hpl',f,ls,ls',e1,e2,e3,rfl,e5⟩|⟨pe,pc,f,xs,g,zs,x',hpl',e1,e2,e3,rfl⟩
    ·simp only at hpl'
     subst hpl'
     obtain⟨hv1,hv2⟩:=hrow0
     rw[e2]at t2 hyi
     simp only[F2]at t2
     subst t2
     have hpos:=hposI i _ 0 _ hyi (show(TV.one (.od f xs')).leaves[0]?=some (.od f xs')from rfl)
     have huj:=husI 0 c0 rfl
     have hioj:io ((res.flatMap TV.leaves).length+K4 yio i+0)=some r:=A19 hLn (hget1 hi) hyi
     have hcv:c0=v0:=by
      rcases hpc with⟨_,h⟩|⟨b,arr,e,fr,h,_⟩
      ·exact h
      ·rcases hv2 with⟨_,_,_,p,n,m,h'⟩|⟨f',ls,b',h',_⟩
       ·rw[h]at h';cases h'
       ·rw[e1]at h';cases h'
     subst hcv
     have hgv:G'.hv r=c0:=by rw[hhv2 r hnn,hv1]
     refine⟨hrowIn _ f xs' c0 r hpos.1 huj (by show(io _).getD _=r;rw[hioj];rfl) hgv,fun _ _ e=>(by cases e),fun row0 hrow0=>?_⟩
     rw[e1]at hrow0;obtain rfl:=oI hrow0
     refine⟨⟨rfl,?_⟩,fun _=>⟨hhv2 r hnn,.inl (hnopa r hio f xs e1)⟩⟩
     obtain⟨u',hu',hrel⟩:=hall.get hpos.1
     rw[huj]at hu';obtain rfl:=oI hu'
     simp only[LA,A2]at hrel
     have h0:=hs.row r _ e1
     show xs.length=xs'.length
     rcases h0 with⟨rfl,h0⟩|⟨b,cap,arr,e,fr,ow,h0,_⟩
     ·rw[←hv1]at h0;subst h0
      rcases hrel with⟨rfl,_⟩|⟨b,off,cap,arr,e,fr,ow,h3,_⟩
      ·rfl
      ·simp at h3
     ·rw[←hv1]at h0;subst h0
      rcases hrel with⟨rfl,a',c',h3,_⟩|⟨b',off,cap',arr',e',fr',ow',h3,_⟩
      ·simp at h3;simp[h3]
      ·simp at h3;exact h3.2.1
    ·simp only at hpl'
     subst hpl'
     obtain⟨hv1,hv2⟩:=hrow0
     rw[e2]at t2 hyi t3
     obtain⟨t2a,t2b⟩:=t2
     have hnoD:∀f xs,σ.look r≠some (.data f xs):=by intro f xs h;rw[e1]at h;cases h
     obtain⟨b,arr,e,fr,p1,p2,p3,p4,p5⟩:∃(b:Nat) (arr:Array Value) (e:TypeId) (fr:Nat×Nat),v0= .pointer (some ⟨b,0,none⟩)∧w'.heap[b]?=some (.cells arr e fr)∧NF fr arr.size∧c0= .agg arr∧ow1 b=some (LL.length+i):=by
      rcases hpc with⟨⟨a',n',m',h⟩,_⟩|h
      ·rcases hv2 with⟨f',xs,h',_⟩|⟨f',ls,b',h',h''⟩
       ·exact absurd h' (hnoD _ _)
       ·rw[h]at h'';cases h''
      ·exact h
     obtain⟨g1,g2⟩:=A17 (L:=LL.length) (ios:=ios.map (·.1)) (ys:=yio) (j:=(res.flatMap TV.leaves).length) (i:=0) hLn (hget1 hi) hyi
     have harr:arr.toList=u3:=by
      rw[p4]at t2a
      have:=Value.agg.inj t2a
      rw[this]
     have hmem:∀m l,ls'[m]?=some l→∀f xs,l= .od f xs→(key dst ((res.flatMap TV.leaves).length+K4 yio i+m),A6.data f xs)∈(instLeaves dst 0 (res.flatMap TV.leaves)).2++news:=by
      rintro m l hm f xs rfl
      exact zA1 _ (e5 _ ((instLeaves_rows dst _ _ _).mpr ⟨m,f,xs,hm,rfl⟩))
     refine⟨⟨b,arr,e,fr,by rw[hhv2 r hnn,←hv1,p1],?_,p2,p3,?_,?_⟩,?_,fun row0 hrow0=>?_⟩
     ·rw[hrtNew b (hisNo b (h1 b _ p5).2),p5]
      dsimp only
      rw[if_pos (.inr (.inr (by omega)))]
      show some ((io _).getD _)=some r
      have:io (LL.length+i)=some r:=by have:=g1;rwa[Nat.add_zero]at this
      rw[this];rfl
     ·rw[instLeaves_len];exact e3
     ·rw[harr]
      refine hinst _ _ _ t3.symm fun m l x hm hx=>?_
      have hp:=hposI i _ m l hyi hm
      exact hleafJ _ l x hp.1 (husI m x hx) fun f xs e=>⟨g2 m (List.getElem?_eq_some_iff.mp hm).1,hmem m l hm f xs e⟩
     ·intro f' ls'' e' q hq
      simp only[A6.box.injEq]at e'
      obtain⟨rfl,rfl⟩:=e'
      refine hrefs ls' _ (fun m l hm=>⟨(hposI i _ m l hyi hm).1,hmem m l hm⟩) q hq
     ·rw[e1]at hrow0;obtain rfl:=oI hrow0
      exact⟨trivial,fun _=>⟨hhv2 r hnn,.inr ⟨_,_,rfl⟩⟩⟩
    ·simp only at hpl'
     subst hpl'
     obtain⟨⟨f0,xs0,p0,q1,q2⟩,⟨_,_,_,hsl⟩,hpo⟩:=hrow0
     simp only at q1 q2 hpo
     obtain⟨hdp,hpi,hpcs,hpsub,b,cap,arr,ty,fr,ow,d1,d2,d3,d4,d5,d6,d7,d8,d9,d10,d11⟩:=hpo f0 xs0 q1 p0 q2
     rw[e1]at q1
     have hh:=oI q1
     injection hh with h1' h2'
     subst h1'
     obtain rfl:=eq_of_heq h2'
     rw[e2]at t2 hyi
     simp only[F2]at t2
     subst t2
     have hpos:=hposI i _ 0 _ hyi (show(TV.one (.od g zs)).leaves[0]?=some (.od g zs)from rfl)
     have huj:=husI 0 c0 rfl
     have hioj:io ((res.flatMap TV.leaves).length+K4 yio i+0)=some r:=A19 hLn (hget1 hi) hyi
     have hcv:c0=v0:=by
      rcases hpc with⟨_,h⟩|⟨b,arr,e,fr,h,_⟩
      ·exact h
      ·rw[h]at hsl;cases hsl
     subst hcv
     obtain⟨u',hu',hrel⟩:=hall.get hpos.1
     rw[huj]at hu';obtain rfl:=oI hu'
     rw[zS]at hrel
     have hrel:A2 true w'.heap (.sl g) zs [c0] (fun q=>ow1 q=some ((res.flatMap TV.leaves).length+K4 yio i+0)):=hrel
     have hstay:∀q,G.rt q=some r→¬PS r q→q<w.heap.size∧ow0 q=none∧G'.rt q=some r∧w'.heap[q]?=w.heap[q]?:=by
      intro q hq hn
      have hlt:=hs.lt q r hq
      have h0:ow0 q=none:=by
       cases h0:ow0 q with
       |none=>rfl
       |some j=>exact absurd (hps r pe pc q hrp hq (by rw[h0];simp)) hn
      refine⟨hlt,h0,?_,hframe q hlt h0⟩
      rw[hrtOld q hlt h0,hq]
      dsimp only
      rw[if_neg (by rw[e1];simp)]
     have hgo:∀q,ow1 q=some ((res.flatMap TV.leaves).length+K4 yio i+0)→(w.heap.size≤q∨ow0 q≠none)∧G'.rt q=some r:=by
      intro q hq
      obtain⟨h2,h3⟩:=h1 q _ hq
      refine⟨h3,?_⟩
      rw[hrtNew q (hisNo q h3),hq]
      dsimp only
      rw[if_pos (.inl hdp)]
      show some ((io _).getD _)=some r
      rw[hioj];rfl
     let ow':Nat→Nat:=fun q=>if ow1 q=some ((res.flatMap TV.leaves).length+K4 yio i+0)then pe else ow q
     have how':∀q,q<w.heap.size→ow0 q=none→ow' q=ow q:=by
      intro q hq h0
      show(if ow1 q=some _ then pe else ow q)=_
      rw[if_neg fun h=>(hgo q h).1.elim (fun h=>by omega) (fun h=>h h0)]
     have hES:∀i' q,(G.rt q=some r∧q≠b∧ow q=i')∧¬PS r q→C0 X τ w'.heap G' r b i' ow' q:=by
      rintro i' q ⟨⟨z1,z2,z3⟩,z4⟩
      obtain⟨y1,y2,y3,y4⟩:=hstay q z1 z4
      unfold C0
      rw[if_pos hdp]
      exact⟨y3,z2,by rw[how' q y1 y2];exact z3⟩
     have hxe:xs[pe]?=some xs[pe]:=List.getElem?_eq_getElem hpi
     have hge:xs.getD pe f.zero=xs[pe]:=by simp[List.getD,hxe]
     refine⟨.inr ⟨b,cap,arr,ty,fr,ow',by rw[hhv2 r hnn,d1,List.length_set],by rw[List.length_set];exact d2,(hstay b d3 d7).2.2.1,by rw[(hstay b d3 d7).2.2.2];exact d4,d5,d6,fun i' x hx=>?_⟩,fun _ _ e=>(by cases e),fun row0 hrow0=>?_⟩
     ·by_cases hie:i'=pe
      ·subst hie
       rw[List.getElem?_set_self hpi]at hx
       obtain rfl:=oI hx
       have hol:=d11.congr (h':=w'.heap) fun q hq=>(hstay q hq.1.1 hq.2).2.2.2
       have hf:=hol.fill hrel (fun q hq hc=>(hgo q hq).1.elim (fun h=>by have:=(hstay q hc.1.1 hc.2).1;omega) (fun h=>h (hstay q hc.1.1 hc.2).2.1)) e3
       rw[hdp]
       have hsame:(seg arr (i'*f.size) f.size).set pc c0=seg arr (i'*f.size) f.size:=by
        have hcell:(seg arr (i'*f.size) f.size)[pc]?=some c0:=by rw[C5 hpcs];exact d8
        obtain⟨z1,z2⟩:=List.getElem?_eq_some_iff.mp hcell
        rw[←z2,List.set_getElem_self]
       rw[hsame]at hf
       refine hf.mono fun q hq=>?_
       rcases hq with hq|hq
       ·exact hES _ q hq
       ·obtain⟨z1,z2⟩:=hgo q hq
        unfold C0
        rw[if_pos hdp]
        refine⟨z2,fun hb=>?_,if_pos hq⟩
        rw[hb]at z1
        exact z1.elim (fun h=>by have:=(hstay b d3 d7).1;omega) (fun h=>h (hstay b d3 d7).2.1)
      ·rw[List.getElem?_set_ne (fun h=>hie h.symm)]at hx
       rw[hdp]
       exact((d10 i' x hie hx).congr fun q hq=>(hstay q hq.1.1 hq.2).2.2.2).mono fun q hq=>hES i' q hq
     ·rw[e1]at hrow0;obtain rfl:=oI hrow0
      exact⟨⟨rfl,by simp⟩,fun _=>⟨hhv2 r hnn,.inl (hnopa r hio f xs e1)⟩⟩
   ·by_cases hn:isNew r
    ·right
     have hnl:=(hnewl r hn).1
     have hn':=hn
     obtain⟨j,rfl,hjl,hioj,f,xs,hj,hmem⟩:=hn
     rw[hτnew j f xs hj hmem]at hr
     obtain rfl:=oI hr
     obtain⟨u,hu,_⟩:=hall.get hj
     refine⟨hrowIn j f xs u _ hj hu (by show(io j).getD _=_;rw[hioj];rfl) (by rw[hhv j hn'];simp[List.getD,hu]),fun _ _ e=>(by cases e),fun row h=>(by rw[hnl]at h;cases h)⟩
    ·rw[hold r hn hio]at hr
     split at hr
     ·obtain rfl:=oI hr
      exact .inr ⟨trivial,fun f ls e=>(by cases e),fun row0 h0=>⟨by cases row0<;>trivial,fun h=>absurd rfl h⟩⟩
     ·rename_i hno
      refine .inl ⟨hr,hhv2 r hn,fun _ q hq=>?_⟩
      have hlt:=hs.lt q r hq
      have h0:ow0 q=none:=by
       cases h0:ow0 q with
       |none=>rfl
       |some j=>
        obtain⟨r0,hr0,e⟩:=how q (by rw[h0];simp)
        rw[hq]at e;obtain rfl:=oI e
        exact absurd hr0 hno
      refine⟨?_,hframe q hlt h0⟩
      rw[hrtOld q hlt h0,hq]
      dsimp only
      rw[if_neg (by rw[hr];simp)]
 have hmk:(A2n res).leaves=res.flatMap TV.leaves:=by
  cases res with
  |nil=>rfl
  |cons y t=>cases t with
   |nil=>simp[A2n,AV.leaves]
   |cons=>rfl
 have hsh':A0v (A2n res) us1 v:=by
  subst hv
  unfold A76
  cases res with
  |nil=>
   rw[dif_neg (by rw[←hrl];simp)]
   exact⟨rs,rfl,hsh1⟩
  |cons y t=>
   cases t with
   |nil=>
    obtain⟨u1,u2,v,vs',rfl,rfl,h6,rfl,rfl⟩:=hsh1
    simp only[zH1]
    exact h6
   |cons y' t=>
    rw[dif_neg (by rw[←hrl];simp)]
    exact⟨rs,rfl,hsh1⟩
 refine⟨G',hstep.put (A7u hsh' ?_) ?_⟩
 ·rw[(instAV_leaves dst (A2n res)).1,hmk]
  refine hinst _ _ 0 hus1.symm fun m l x hm hx=>?_
  rw[zS]
  obtain⟨a1,a2,a3,a4⟩:=hposR m l hm
  exact hleafJ m l x a1 (by rw[a4];exact hx) fun f xs e=>⟨a3,hresM m l hm f xs e⟩
 ·intro r hr
  unfold AV.refs at hr
  rw[(instAV_leaves dst (A2n res)).1,hmk]at hr
  exact hrefs _ 0 (fun m l hm=>by rw[zS];exact⟨(hposR m l hm).1,hresM m l hm⟩) r hr
def D9:A6→A6→Prop
 | .dead,.dead=>True
 | .data f xs,.data g ys=>A6.data f xs= .data g ys
 | .hol f xs i c n,.hol g ys j d m=>A6.hol f xs i c n= .hol g ys j d m
 | .box f _,.box g _=>f=g
 |_,_=>False
theorem D9.refl (row:A6):D9 row row:=by cases row<;>simp[D9]
theorem D9.trans {a b c:A6}(h1:D9 a b)(h2:D9 b c):D9 a c:=by
 cases a<;>cases b<;>simp only[D9]at h1<;>cases c<;>simp only[D9]at h2⊢
 ·exact h1.trans h2
 ·exact h1.trans h2
 ·exact h1.trans h2
theorem A9a {r s:Nat}(h:A06 σ r):A06 (σ.map (dropPa s)) r:=by
 have key:∀l:A0,l.noPa r→(dropPa s l).noPa r:=by
  intro l hl
  cases l<;>simp only[dropPa]<;>try exact hl
  rename_i q i c
  cases Nat.beq q s
  ·exact hl
  ·trivial
 refine⟨fun i l hl=>?_,fun q f ls hq l hl=>?_,fun l hl=>?_⟩
 ·have e:(σ.map (dropPa s)).slots.getD i A1=(σ.slots.getD i A1).map (dropPa s):=getD_map rfl σ.slots i
  rw[e]at hl
  have:∀av:AV,∀l∈(av.map (dropPa s)).leaves,∃l0∈av.leaves,l=dropPa s l0:=by
   intro av l hl
   have ht:∀x:TV,∀l∈(x.map (dropPa s)).leaves,∃l0∈x.leaves,l=dropPa s l0:=by
    intro x l hl
    cases x with
    |one l0=>simp[TV.map,TV.leaves]at hl⊢;exact hl
    |agg ls=>
     simp only[TV.map,TV.leaves,List.mem_map]at hl⊢
     obtain⟨l0,h1,h2⟩:=hl
     exact⟨l0,h1,h2.symm⟩
   cases av with
   |v x=>exact ht x l hl
   |tup xs=>
    simp only[AV.map,AV.leaves,zB1,List.mem_map]at hl⊢
    obtain⟨_,⟨x,hx,rfl⟩,hl⟩:=hl
    obtain⟨l0,h1,h2⟩:=ht x l hl
    exact⟨l0,⟨x,hx,h1⟩,h2⟩
  obtain⟨l0,h1,rfl⟩:=this _ l hl
  exact key _ (h.slot i l0 h1)
 ·rw[St.look_map]at hq
  obtain⟨row,h1,h2⟩:=oM hq
  cases row<;>simp only[A6.map]at h2<;>try (cases h2;done)
  rename_i f0 ls0
  simp only[A6.box.injEq]at h2
  obtain⟨rfl,rfl⟩:=h2
  obtain⟨l0,h3,rfl⟩:=List.mem_map.mp hl
  exact key _ (h.box q _ _ h1 l0 h3)
 ·obtain⟨l0,h3,rfl⟩:=List.mem_map.mp (show l∈σ.pins.map (dropPa s)from hl)
  exact key _ (h.pin l0 h3)
theorem A96 (s:Nat)(r:Nat):(σ.look r=none∧(σ.map (dropPa s)).look r=none)∨∃row row',σ.look r=some row∧(σ.map (dropPa s)).look r=some row'∧D9 row row':=by
 rw[St.look_map]
 cases h:σ.look r with
 |none=>exact .inl ⟨rfl,rfl⟩
 |some row=>
  refine .inr ⟨row,_,rfl,rfl,?_⟩
  cases row<;>simp[A6.map,D9]
theorem A4t (r:Nat):E8 σ r=σ∧(∀f xs,σ.look r≠some (.data f xs))∨E8 σ r=σ.map (dropPa r):=by
 unfold E8
 cases h:σ.look r with
 |none=>exact .inl ⟨rfl,by simp⟩
 |some row=>cases row with
  |data f xs=>exact .inr rfl
  |dead=>exact .inl ⟨rfl,by simp⟩
  |hol=>exact .inl ⟨rfl,by simp⟩
  |box=>exact .inl ⟨rfl,by simp⟩
theorem Sim.dropAll:∀(ios:List Nat) {σ:St} (_:Sim X σ a w G),Sim X (ios.foldl E8 σ) a w G∧
  (∀r,(σ.look r=none∧(ios.foldl E8 σ).look r=none)∨∃row row',σ.look r=some row∧(ios.foldl E8 σ).look r=some row'∧D9 row row')∧
  (∀q,Imm X σ w.heap G q→Imm X (ios.foldl E8 σ) w.heap G q)∧(∀r,A06 σ r→A06 (ios.foldl E8 σ) r)∧(∀r∈ios,∀f xs,σ.look r=some (.data f xs)→A06 (ios.foldl E8 σ) r)
 |[],σ,hs=>⟨hs,fun r=>by
   cases h:σ.look r with
   |none=>exact .inl ⟨rfl,by simpa using h⟩
   |some row=>exact .inr ⟨row,row,rfl,by simpa using h,D9.refl row⟩,fun q h=>h,fun r h=>h,fun r h=>by simp at h⟩
 |s::ios,σ,hs=>by
  have h1:Sim X (E8 σ s) a w G∧(∀r,(σ.look r=none∧(E8 σ s).look r=none)∨∃row row',σ.look r=some row∧(E8 σ s).look r=some row'∧D9 row row')∧
    (∀q,Imm X σ w.heap G q→Imm X (E8 σ s) w.heap G q)∧(∀r,A06 σ r→A06 (E8 σ s) r)∧(∀f xs,σ.look s=some (.data f xs)→A06 (E8 σ s) s):=by
   rcases A4t (σ:=σ) s with⟨e,hno⟩|e
   ·rw[e]
    refine⟨hs,fun r=>?_,fun q h=>h,fun r h=>h,fun f xs h=>absurd h (hno f xs)⟩
    cases h:σ.look r with
    |none=>exact .inl ⟨rfl,rfl⟩
    |some row=>exact .inr ⟨row,row,rfl,rfl,D9.refl row⟩
   ·rw[e]
    exact⟨hs.dropPa s,A96 s,fun q hq=>((A5z (ks:=[])).imm q hq).1,fun r h=>A9a h,fun _ _ _=>M2 s⟩
  obtain⟨h1,h2,h3,h4,h5⟩:=h1
  obtain⟨k1,k2,k3,k4,k5⟩:=Sim.dropAll ios h1
  refine⟨k1,fun r=>?_,fun q hq=>k3 q (h3 q hq),fun r h=>k4 r (h4 r h),fun r hr f xs hlk=>?_⟩
  ·rcases h2 r with⟨e1,e2⟩|⟨row,row',e1,e2,e3⟩
   ·rcases k2 r with⟨f1,f2⟩|⟨_,_,f1,_⟩
    ·exact .inl ⟨e1,f2⟩
    ·rw[e2]at f1;cases f1
   ·rcases k2 r with⟨f1,f2⟩|⟨A2r,B02,f1,f2,f3⟩
    ·rw[e2]at f1;cases f1
    ·rw[e2]at f1;obtain rfl:=oI f1
     exact .inr ⟨row,B02,e1,f2,e3.trans f3⟩
  ·rcases List.mem_cons.mp hr with rfl|hr
   ·exact k4 r (h5 f xs hlk)
   ·rcases h2 r with⟨e1,_⟩|⟨row,row',e1,e2,e3⟩
    ·rw[e1]at hlk;cases hlk
    ·rw[e1]at hlk;obtain rfl:=oI hlk
     cases row'<;>simp only[D9]at e3
     rw[←e3]at e2
     exact k5 r hr f xs e2
theorem A37 {τ:St}(h:∀r,(σ.look r=none∧τ.look r=none)∨∃row row',σ.look r=some row∧τ.look r=some row'∧D9 row row'){dst:Option Nat}:∀{ios:List (Nat×Option (Nat×Nat))} {ys:List TV} {j:Nat},S1 τ dst j ios ys=S1 σ dst j ios ys
 |[],[],_=>rfl
 |[],_::_,_=>rfl
 |_::_,[],_=>rfl
 |r::ios,y::ys,j=>by
  have:A6v τ dst j r y=A6v σ dst j r y:=by
   unfold A6v
   rcases h r.1 with⟨e1,e2⟩|⟨row,row',e1,e2,e3⟩
   ·rw[e1,e2]
   ·rw[e1,e2]
    cases row<;>cases row'<;>simp only[D9]at e3
    ·rfl
    ·cases r.2 with
     |none=>
      subst e3
      cases y with
      |one l=>rfl
      |agg ls=>rfl
     |some ic=>rfl
    ·cases e3;rfl
    ·cases e3;rfl
  simp only[S1]
  rw[this,A37 h]
theorem U3.same {τ:St}{h:Array Obj}{PS:Nat→Nat→Prop}{r:Nat×Option (Nat×Nat)}{v:Value}(hd:∀f xs,σ.look r.1=some (.data f xs)→τ.look r.1=some (.data f xs))(hb:∀f ls,σ.look r.1=some (.box f ls)→∃ls',τ.look r.1=some (.box f ls'))(hr:U3 X σ h G PS r v):U3 X τ h G PS r v:=by
 unfold U3 at hr⊢
 cases hic:r.2 with
 |none=>
  rw[hic]at hr
  obtain⟨h1,h2⟩:=hr
  refine⟨h1,?_⟩
  rcases h2 with⟨f,xs,h3,h4⟩|⟨f,ls,b,h3,h4⟩
  ·exact .inl ⟨f,xs,hd f xs h3,h4⟩
  ·obtain⟨ls',h5⟩:=hb f ls h3
   exact .inr ⟨f,ls',b,h5,h4⟩
 |some ic=>
  rw[hic]at hr
  obtain⟨⟨f,xs,p,h1,h2⟩,h3,h4⟩:=hr
  refine⟨⟨f,xs,p,hd f xs h1,h2⟩,h3,fun f' xs' hx=>?_⟩
  rw[hd f xs h1]at hx
  rw[oI hx]at h1
  exact h4 f' xs' h1
theorem Sim.finIo (hs:Sim X σ a w G){S:Nat→Prop}{ow0:Nat→Option Nat}{own:List Nat}{ios:List (Nat×Option (Nat×Nat))}(how:∀q,ow0 q≠none→∃r∈own,G.rt q=some r)(hlive:∀r∈own,σ.live r)
  {PS:Nat→Nat→Prop} (hps:∀r i c q,(r,some (i,c))∈ios→G.rt q=some r→ow0 q≠none→PS r q)
  {pv:List Value} {out:AV} {v:Value} (hp:A1l S ow0 w w' false pv out v) (hS:∀q,S q→ow0 q=none) {dst:Option Nat}
  (hios:A7 (U3 X σ w.heap G PS) ios pv) (hne:ios≠[]) (hsub:∀r∈ios.map (·.1),r∈own) (hdist:distinct (ios.map (·.1))=true) {τ:St} (h:finIo σ dst own ios out=some τ)
  (hI:(F5 out.leaves=true)→∀q,S q→Imm X σ w.heap G q):∃G',Sim X τ (a.put dst v) w' G':=by
 unfold Ev.finIo at h
 cases out with
 |v x=>cases h
 |tup ys=>
  simp only at h
  obtain⟨⟨ups,news⟩,hq,h⟩:=oB h
  obtain⟨σ3,h3,h⟩:=oB h
  obtain rfl:=oI h
  obtain⟨k1,k2,k3,k4,k5⟩:=hs.dropAll (ios.map (·.1))
  rw[←A37 k2]at hq
  have hlive':∀r,σ.live r→((ios.map (·.1)).foldl E8 σ).live r:=by
   rintro r ⟨row,h1,h2⟩
   rcases k2 r with⟨e1,_⟩|⟨A8c,row',e1,e2,e3⟩
   ·rw[e1]at h1;cases h1
   ·rw[e1]at h1;obtain rfl:=oI h1
    refine⟨row',e2,?_⟩
    rintro rfl
    cases A8c<;>simp only[D9]at e3
    exact h2 rfl
  have hdata:∀r f xs,σ.look r=some (.data f xs)↔((ios.map (·.1)).foldl E8 σ).look r=some (.data f xs):=by
   intro r f xs
   rcases k2 r with⟨e1,e2⟩|⟨row,row',e1,e2,e3⟩
   ·rw[e1,e2]
   ·rw[e1,e2]
    constructor
    ·intro h
     obtain rfl:=oI h
     cases row'<;>simp only[D9]at e3
     rw[e3]
    ·intro h
     obtain rfl:=oI h
     cases row<;>simp only[D9]at e3
     rw[e3]
  have hios':A7 (U3 X ((ios.map (·.1)).foldl E8 σ) w.heap G PS) ios pv:=by
   refine hios.mono fun r v hr=>hr.same (fun f xs=>(hdata r.1 f xs).mp) fun f ls h=>?_
   rcases k2 r.1 with⟨e1,_⟩|⟨row,row',e1,e2,e3⟩
   ·rw[e1]at h;cases h
   ·rw[e1]at h;obtain rfl:=oI h
    cases row'<;>simp only[D9]at e3
    subst e3
    exact⟨_,e2⟩
  refine k1.behindIo how (fun r hr=>hlive' r (hlive r hr)) (PS:=PS) hps (res:=ys.take (ys.length - ios.length)) (yio:=ys.drop (ys.length - ios.length)) (by rw[List.take_append_drop];exact hp) hS hios' hne hsub hdist (fun r hr f xs hlk=>k5 r hr f xs ((hdata r f xs).mpr hlk)) hq h3 (fun hsh q hq=>k3 q (hI (by rwa[List.take_append_drop]at hsh) q hq))
end
end Go.Proofs.Ytalmhjlcjcnidaa.Ev

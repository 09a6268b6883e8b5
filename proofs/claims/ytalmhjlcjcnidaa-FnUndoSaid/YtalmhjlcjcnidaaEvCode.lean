/- Code: regions, loops, jumps. -/
import Derived.Test.YtalmhjlcjcnidaaEvDraw6
set_option linter.all false
namespace Go.Proofs.Ytalmhjlcjcnidaa.Ev
open Go
section
variable {P:Program} {E:Env} {X:Ctx} {σ σ':St} {a:Act} {w w':World} {G:Gh}
theorem B0h {h:Array Obj}(hsub:∀r row,σ'.look r=some row→σ.look r=some row):Fr X σ h G σ' h G:=by
 refine⟨fun q hq=>⟨⟨hq.1,hq.2.1,fun r hr hl=>hq.2.2 r hr ?_⟩,rfl⟩,fun r f ys _ hr=>⟨ys,(by obtain⟨row,h1,h2⟩:=hr;exact⟨row,hsub _ _ h1,h2⟩),rfl,rfl⟩,fun r f ls _ hr=>⟨f,ls,hsub _ _ hr,rfl⟩⟩
 obtain⟨row,h1,h2⟩:=hl
 exact⟨row,hsub _ _ h1,h2⟩
theorem A5.sub {h:Array Obj}(hsub:∀r row,σ'.look r=some row→σ.look r=some row){l:A0}{v:Value}(hl:A5 X σ h G l v):A5 X σ' h G l v:=by
 have F:Fr X σ h G σ' h G:=B0h hsub
 have hsd:∀r f (xs:List f.T),σ'.dat r f xs→σ.dat r f xs:=fun r f xs hr=>by obtain⟨row,h1,h2⟩:=hr;exact⟨row,hsub _ _ h1,h2⟩
 cases l with
 |undef=>exact hl
 |nil=>exact hl
 |int k n=>exact hl
 |bool b=>exact hl
 |str s=>exact hl
 |sh f xs=>exact(A2.mono (fun q hq=>(F.imm q hq).1) hl)
 |od f xs=>exact hl
 |ow r=>exact⟨hl.1,fun f xs hr=>hl.2 f xs (hsd _ _ _ hr)⟩
 |sub r off len=>exact⟨hl.1,fun f xs hr=>hl.2 f xs (hsd _ _ _ hr)⟩
 |pa r i c=>exact⟨hl.1,fun f xs hr=>hl.2 f xs (hsd _ _ _ hr)⟩
 |ptr r i c=>exact⟨hl.1,fun f xs hr=>hl.2.1 f xs (hsd _ _ _ hr),fun f ls hr=>hl.2.2 f ls (hsub _ _ hr)⟩
 |spt f x c=>exact K1.pres F hl
 |clo f caps=>
  obtain⟨vs,e,hv⟩:=hl
  refine⟨vs,e,hv.mono fun c v hcv=>?_⟩
  cases c with
  |own r=>exact⟨hcv.1,fun f ls hr=>hcv.2 f ls (hsub _ _ hr)⟩
  |sh f x=>exact K1.pres F hcv
theorem Sim.sub (hs:Sim X σ a w G)(hsub:∀r row,σ'.look r=some row→σ.look r=some row)(hlen:σ'.slots.length=σ.slots.length)(hpin:σ'.pins=σ.pins)
  (hslot:∀i,i<σ.slots.length→(σ'.slots.getD i A1=A1∨(σ'.slots.getD i A1=σ.slots.getD i A1∧∀r∈(σ.slots.getD i A1).refs,∃row,σ'.look r=some row)))
  (hrr:∀r row,σ'.look r=some row→∀q∈row.refs,∃row',σ'.look q=some row') (hpr:∀l∈σ.pins,∀r∈l.refs,∃row,σ'.look r=some row):Sim X σ' a w G:=by
 have F:Fr X σ w.heap G σ' w.heap G:=B0h hsub
 have htv:∀(x:TV) (v:Value),L1 X σ w.heap G x v→L1 X σ' w.heap G x v:=by
  intro x v hx
  cases x with
  |one l=>exact hx.imp id (A5.sub hsub)
  |agg ls=>obtain⟨vs,e,h⟩:=hx;exact⟨vs,e,h.mono fun l v=>A5.sub hsub⟩
 refine⟨hs.defs,by rw[hlen];exact hs.len,?_,?_,?_,hs.lt,?_,hs.size,hs.frame,hs.os,hs.tape,hs.output,?_,?_,?_⟩
 ·intro i hi
  rw[hlen]at hi
  rcases hslot i hi with h|⟨h,_⟩
  ·rw[h]
   exact .inl rfl
  ·rw[h]
   have:=hs.slot i hi
   revert this
   generalize σ.slots.getD i A1=av
   intro this
   cases av with
   |v x=>exact htv x _ this
   |tup xs=>obtain⟨vs,e,h⟩:=this;exact⟨vs,e,h.mono htv⟩
 ·intro r row hr
  have h0:=hs.row r row (hsub r row hr)
  cases row with
  |dead=>trivial
  |data f xs=>
   rcases h0 with h|⟨b,cap,arr,e,fr,ow,e1,e2,e3,e4,e5,e6,e7⟩
   ·exact .inl h
   ·refine .inr ⟨b,cap,arr,e,fr,ow,e1,e2,e3,e4,e5,e6,fun i x hx=>(e7 i x hx).mono fun q hq=>?_⟩
    unfold C0 at hq⊢
    split at hq
    ·rename_i hd;rw[if_pos hd];exact hq
    ·rename_i hd;rw[if_neg hd];exact(F.imm q hq).1
  |hol f xs i c n=>
   obtain⟨g1,g2,g3,_,b,cap,arr,e,fr,ow,e1,e2,e3,e4,e5,e6,e7,e8⟩:=h0
   have hm1:∀j q,C0 X σ w.heap G r b j ow q→C0 X σ' w.heap G r b j ow q:=by
    intro j q hq
    unfold C0 at hq⊢
    rw[if_pos g1]at hq⊢
    exact hq
   refine⟨g1,g2,g3,hrr r _ hr n (by simp[A6.refs]),b,cap,arr,e,fr,ow,e1,e2,e3,e4,e5,e6,fun j x hx=>⟨fun hj=>((e7 j x hx).1 hj).mono (hm1 j),fun hj=>((e7 j x hx).2 hj).mono (hm1 j)⟩,fun g' ys hn=>e8 g' ys ?_⟩
   obtain⟨row,h1,h2⟩:=hn
   exact⟨row,hsub _ _ h1,h2⟩
  |box f ls=>
   obtain⟨b,arr,e,fr,e1,e3,e4,e6,e7,e8⟩:=h0
   exact⟨b,arr,e,fr,e1,e3,e4,e6,e7,e8.mono fun l v=>A5.sub hsub⟩
 ·rw[hpin];exact hs.pin.mono fun l v=>A5.sub hsub
 ·rintro q r h1 ⟨row,h2,h3⟩ h4
  exact hs.ownA q r h1 ⟨row,hsub _ _ h2,h3⟩ h4
 ·intro i hi r hr
  rw[hlen]at hi
  rcases hslot i hi with h|⟨h,h'⟩
  ·rw[h]at hr;simp[AV.refs,AV.leaves,A1,TV.leaves,A0.refs]at hr
  ·rw[h]at hr;exact h' r hr
 ·rw[hpin];exact hpr
 ·intro r f ls hr q hq
  exact hrr r _ hr q hq
theorem P7 {rows:List Nat}:∀{rs rs':List (Nat×A6)},P2 rows rs=some rs'→(∀r,look r rs'=if E6 r rows=true then look r rs else none)∧∀p∈rs',p.2.refs.all (E6 · rows)=true∧p.2.isHol=false
 |[],rs',h=>by simp only[P2,zO]at h;subst h;simp[look]
 |(k,row)::t,rs',h=>by
  simp only[P2]at h
  cases hm:E6 k rows<;>simp only[hm,zB,zA]at h
  ·obtain⟨h1,h2⟩:=P7 h
   refine⟨fun r=>?_,h2⟩
   rw[h1 r]
   split
   ·rename_i hr
    simp only[look]
    have:k≠r:=by rintro rfl;rw[hm]at hr;cases hr
    rw[A1o (show r≠k from fun h=>this h.symm),zA]
   ·rfl
  ·cases ha:row.refs.all (E6 · rows)&& !row.isHol<;>simp only[ha,zB,zA]at h
   ·cases h
   ·simp only[zJ,Bool.not_eq_true']at ha
    obtain⟨t',ht,h⟩:=oB h
    obtain rfl:=oI h
    obtain⟨h1,h2⟩:=P7 ht
    refine⟨fun r=>?_,fun p hp=>?_⟩
    ·simp only[look]
     cases hb:Nat.beq k r<;>simp only[zB,zA]
     ·exact h1 r
     ·have e:=zN hb;subst e
      rw[if_pos hm]
    ·rcases List.mem_cons.mp hp with rfl|hp
     ·exact ha
     ·exact h2 p hp
theorem A4z {r:Nat}{row:A6}:∀{rs:List (Nat×A6)},look r rs=some row→(r,row)∈rs
 |[],h=>by cases h
 |(k,v)::t,h=>by
  simp only[look]at h
  cases hb:Nat.beq k r<;>simp only[hb,zB,zA]at h
  ·exact zF _ (A4z h)
  ·obtain rfl:=oI h
   have e:=zN hb;subst e
   exact zM ..
theorem P8 {mask:Nat}{rows:List Nat}:∀{ss ss':List AV} {i:Nat},L9 mask rows i ss=some ss'→ss'.length=ss.length∧
  ∀j,ss'.getD j A1=A1∨(ss'.getD j A1=ss.getD j A1∧(ss.getD j A1).refs.all (E6 · rows)=true)
 |[],ss',i,h=>by simp only[L9,zO]at h;subst h;simp
 |x::t,ss',i,h=>by
  simp only[L9]at h
  cases hm:mask.testBit i<;>simp only[hm,zB,zA]at h
  ·obtain⟨t',ht,h⟩:=oB h
   obtain rfl:=oI h
   obtain⟨h1,h2⟩:=P8 ht
   refine⟨by simp[h1],fun j=>?_⟩
   cases j with
   |zero=>exact .inl rfl
   |succ j=>simpa using h2 j
  ·obtain⟨x',hx,h⟩:=oB h
   obtain⟨t',ht,h⟩:=oB h
   obtain rfl:=oI h
   obtain⟨h1,h2⟩:=P8 ht
   unfold A93 at hx
   cases ha:x.refs.all (E6 · rows)<;>simp only[ha,zB,zA]at hx
   ·cases hx
   ·obtain rfl:=oI hx
    refine⟨by simp[h1],fun j=>?_⟩
    cases j with
    |zero=>exact .inr ⟨rfl,ha⟩
    |succ j=>simpa using h2 j
theorem Sim.clean0 (hs:Sim X σ a w G){k:U8}(h:σ.clean0 k=some σ'):Sim X σ' a w G∧∀r row,σ'.look r=some row→r∈k.rows∧row.isHol=false:=by
 unfold St.clean0 at h
 cases hp:σ.pins.all (fun l=>l.refs.all (E6 · k.rows))<;>simp only[hp,zB,zA]at h
 ·cases h
 obtain⟨ss,hss,h⟩:=oB h
 obtain⟨rs,hrs,h⟩:=oB h
 obtain rfl:=oI h
 obtain⟨c1,c2⟩:=P8 hss
 obtain⟨d1,d2⟩:=P7 hrs
 have hlk:∀r,St.look {slots:=ss,rows:=rs,pins:=σ.pins} r=if E6 r k.rows=true then σ.look r else none:=d1
 have hkeep:∀r,E6 r k.rows=true→(∃row,σ.look r=some row)→∃row,St.look {slots:=ss,rows:=rs,pins:=σ.pins} r=some row:=by
  intro r hr ⟨row,h⟩
  exact⟨row,by rw[hlk,if_pos hr];exact h⟩
 refine⟨hs.sub (fun r row hr=>?_) c1 rfl (fun i hi=>?_) (fun r row hr q hq=>?_) (fun l hl r hr=>?_),fun r row hr=>?_⟩
 ·rw[hlk]at hr
  split at hr
  ·exact hr
  ·cases hr
 ·rcases c2 i with h|⟨h,h'⟩
  ·exact .inl h
  ·refine .inr ⟨h,fun r hr=>hkeep r (List.all_eq_true.mp h' r hr) (hs.refs i hi r hr)⟩
 ·have hmem:=d2 _ (A4z hr)
  refine hkeep q (List.all_eq_true.mp hmem.1 q hq) ?_
  rw[hlk]at hr
  split at hr
  ·cases row with
   |box f ls=>exact hs.rrefs r f ls hr q hq
   |dead=>simp[A6.refs]at hq
   |data=>simp[A6.refs]at hq
   |hol f xs i c n=>
    obtain⟨_,_,_,h4,_⟩:=hs.row r _ hr
    simp[A6.refs]at hq;subst hq;exact h4
  ·cases hr
 ·have:=List.all_eq_true.mp hp l hl
  exact hkeep r (List.all_eq_true.mp this r hr) (hs.prefs l hl r hr)
 ·have hmem:=d2 _ (A4z hr)
  rw[hlk]at hr
  split at hr
  ·rename_i hm;exact⟨D6.mp hm,hmem.2⟩
  ·cases hr
theorem Sim.clean (hs:Sim X σ a w G){k:U8}(h:σ.clean k=some σ'):(∃G',Sim X σ' a w G')∧∀q row,σ'.look q=some row→row.isHol=false:=by
 unfold St.clean at h
 obtain⟨ρ,hρ,h⟩:=oB h
 replace hs:=(hs.freeze hρ).1
 clear hρ
 generalize ρ.renOf k.mask=ren at h
 cases hb:distinct (ren.map (·.1))&&distinct (ren.map (·.2))<;>simp only[hb,zB,zA]at h
 ·cases h
 simp only[zJ]at hb
 obtain⟨τ,hτ,h⟩:=oB h
 obtain rfl:=oI h
 obtain⟨h1,h2⟩:=hs.clean0 hτ
 refine⟨h1.ren hb.1 hb.2 (fun r row hr=>(h2 r row hr).2) fun r row hr=>?_,fun q row hr=>?_⟩
 rotate_left
 ·obtain⟨r0,row0,_,e1,rfl⟩:=U0 hr
  have:=(h2 r0 row0 e1).2
  cases row0<;>first|rfl|cases this
 obtain⟨⟨r',n⟩,hm,rfl⟩:=List.mem_map.mp (h2 r row hr).1
 exact⟨n,H6 hb.1 hm⟩
theorem Sim.tmp (hs:Sim X σ a w G){d:Nat}{b:Bool}(h:σ.slots.getD d A1= .v (.one (.bool b))):d<a.tmps.size∧a.tmps.getD d undef= .bool b:=by
 have hd:d<σ.slots.length:=by
  rcases zE1 d σ.slots.length with h'|h'
  ·exact h'
  ·rw[List.getD,List.getElem?_eq_none h']at h;cases h
 refine⟨by rw[hs.len];exact hd,?_⟩
 have:=hs.slot d hd
 rw[h]at this
 exact this.resolve_left (by simp)
theorem Sim.again (hs:Sim X σ a w G){d:Nat}{b:Bool}(h:σ.slots.getD d A1= .v (.one (.bool b))):Sim X (σ.put (some d) (.v (.one (.bool b)))) a w G:=by
 obtain⟨h1,h2⟩:=hs.tmp h
 have:=hs.put (d:=some d) (av:= .v (.one (.bool b))) (v:= .bool b) (.inr rfl) (by simp[AV.refs,AV.leaves,TV.leaves,A0.refs])
 have e:a.put (some d) (.bool b)=a:=by
  obtain⟨tmps,defers⟩:=a
  simp only[Act.put]
  congr 1
  apply Array.ext (by simp)
  intro i hi1 hi2
  rw[Array.getElem_setIfInBounds]
  split
  ·rename_i e;subst e
   simp only[Array.getD]at h2
   rw[dif_pos h1]at h2
   exact h2.symm
  ·rfl
 rwa[e]at this
theorem W0 {C:CF}(hE:B4 P E)(hQ:U2 P E)(hC:A2m P E C)(hs:Sim X σ a w G){R:Type}{ops:Array Oper}{o:Oper}{κ:St→Option R}{r:R}(h:G0 E C X.deep ops o σ κ=some r)
  {next:Act→World→Prop} {Q:Exit→Act→World→Prop} (hn:∀σ' a' w' G',Sim X σ' a' w' G'→κ σ'=some r→next a' w'):
  if Region.wanted o (yielded ops a.tmps)=true then o.wp P a w next Q else next (a.put o.dst undef) w:=by
 have hskip:∀{τ:St},Sim X τ a w G→κ (τ.put o.dst S7)=some r→next (a.put o.dst undef) w:=fun ht hk=>hn _ _ _ _ (ht.put (av:=S7) (v:=undef) (by unfold S7 S8;exact⟨[],rfl,.nil⟩) (by simp[AV.refs,AV.leaves,S7])) hk
 unfold G0 at h
 split at h
 ·rename_i hg
  have:Region.wanted o (yielded ops a.tmps)=true:=by
   unfold M8 at hg
   split at hg
   ·rename_i h0;simp[Region.wanted,h0]
   ·cases hg
  rw[if_pos this]
  exact A1t hE hQ hC hs h hn
 ·cases h
 ·rename_i d want hg
  obtain⟨j,hj,hd⟩:∃j,o.guard=some (j,want)∧(ops[j]?).bind (·.dst)=some d:=by
   unfold M8 at hg
   split at hg
   ·cases hg
   ·rename_i j want' h0
    simp at hg
    exact⟨j,by rw[h0,hg.2],hg.1⟩
  split at h
  ·rename_i b hb
   obtain⟨h1,h2⟩:=hs.tmp hb
   have hy:Region.wanted o (yielded ops a.tmps)=(b==want):=by
    have:a.tmps[d]?=some (.bool b):=by
     rw[←h2];simp[Array.getD,h1]
    simp[Region.wanted,hj,yielded,hd,this]
   rw[hy]
   cases b<;>simp only[zB,zA]at h
   ·cases want<;>simp only[zB,zA]at h
    ·exact A1t hE hQ hC (hs.again hb) h hn
    ·exact hskip (hs.again hb) h
   ·cases want<;>simp only[zB,zA]at h
    ·exact hskip (hs.again hb) h
    ·exact A1t hE hQ hC (hs.again hb) h hn
  ·rename_i hb
   have hy:Region.wanted o (yielded ops a.tmps)=false:=by
    have:∀b,a.tmps[d]?≠some (.bool b):=by
     intro b hc
     by_cases hi:d<σ.slots.length
     ·have:=hs.slot d hi
      rw[hb]at this
      obtain⟨vs,e,hv⟩:=this
      cases hv
      obtain⟨h1,h2⟩:=Array.getElem?_eq_some_iff.mp hc
      simp only[Array.getD,h1,dite_true]at e
      change a.tmps[d]=_ at e
      rw[h2]at e;cases e
     ·have:σ.slots.getD d A1=A1:=by simp[List.getD,List.getElem?_eq_none (Nat.le_of_not_lt hi)]
      rw[this]at hb;cases hb
    simp only[Region.wanted,hj,yielded,hd,zC]
    cases hc:a.tmps[d]? with
    |none=>rfl
    |some v=>cases v<;>first|rfl|exact absurd hc (this _)
   rw[hy,if_neg (by simp)]
   exact hskip hs h
  ·cases h
theorem A31 {C:CF}(hE:B4 P E)(hQ:U2 P E)(hC:A2m P E C){R:Type}{ops:Array Oper}{κ:St→Option R}{r:R}{Q:Exit→Act→World→Prop}
  (hn:∀σ' a' w' G',Sim X σ' a' w' G'→κ σ'=some r→Q .normal a' w'):∀{l:List Oper} {is:List Nat} {σ:St} {a:Act} {w:World} {G:Gh},A7 (fun o i=>ops[i]?=some o) l is→Sim X σ a w G→R8 E C X.deep ops l σ κ=some r→
  wpOps P ops Q is a w
 |_,_,σ,a,w,G,.nil,hs,h=>hn _ _ _ _ hs h
 |_,_,σ,a,w,G,.cons (a:=o) (b:=i) ho hl,hs,h=>by
  simp only[R8]at h
  have:=W0 (Q:=Q) hE hQ hC hs h (next:=wpOps P ops Q _) fun σ' a' w' G' hs' h'=>A31 hE hQ hC hn hl hs' h'
  simp only[wpOps,ho]
  split
  ·rename_i hw;rw[if_pos hw]at this;exact .inl this
  ·rename_i hw;rw[if_neg hw]at this;exact this
theorem A7y (ops:Array Oper):A7 (fun o i=>ops[i]?=some o) ops.toList (List.range ops.size):=by
 have:∀(l:List Oper) (n:Nat),(∀k o,l[k]?=some o→ops[n+k]?=some o)→A7 (fun o i=>ops[i]?=some o) l (List.range' n l.length):=by
  intro l
  induction l with
  |nil=>intro n _;exact .nil
  |cons o l ih=>
   intro n h
   exact .cons (by simpa using h 0 o rfl) (ih (n+1) fun k o' hk=>by have:=h (k+1) o' (by simpa using hk);rwa[show n+1+k=n+(k+1)by omega])
 have:=this ops.toList 0 (by simp)
 rwa[zI1,←List.range_eq_range']at this
theorem Sim.same {τ:St}(hs:Sim X σ a w G)(h:Same σ τ):Sim X τ a w G:=by
 obtain⟨h1,h2,hl⟩:=h
 refine⟨hs.defs,by rw[h1];exact hs.len,fun i hi=>?_,fun r row hr=>?_,?_,hs.lt,fun q r hq hlv=>?_,hs.size,hs.frame,hs.os,hs.tape,hs.output,?_,?_,?_⟩
 ·rw[h1]at hi⊢;exact(S8.look hl).mp (hs.slot i hi)
 ·rw[hl]at hr;exact(E7.look hl).mp (hs.row r row hr)
 ·rw[h2];exact hs.pin.mono fun l v h=>(A5.look hl).mp h
 ·refine hs.ownA q r hq ?_
  obtain⟨row,e1,e2⟩:=hlv
  exact⟨row,by rw[←hl];exact e1,e2⟩
 ·rw[h1];simpa only[hl]using hs.refs
 ·rw[h2];simpa only[hl]using hs.prefs
 ·simpa only[hl]using hs.rrefs
theorem Sim.drew (hs:Sim X σ a w G)(n:Nat):Sim X σ a {w with drawn:=n} G:=
 ⟨hs.defs,hs.len,hs.slot,hs.row,hs.pin,hs.lt,hs.ownA,hs.size,hs.frame,hs.os,hs.tape,hs.output,hs.refs,hs.prefs,hs.rrefs⟩
theorem A7v {C:CF}(hE:B4 P E)(hQ:U2 P E)(hC:A2m P E C){R:Type}{ops:Array Oper}{κ:St→Option R}{r:R}{Q:Exit→Act→World→Prop}
  (hn:∀σ' a' w' G',Sim X σ' a' w' G'→κ σ'=some r→Q .normal a' w'):∀{t:List Oper} {k:Nat} {listed:Array Bool} {σ:St} {a:Act} {w:World} {G:Gh},Sim X σ a w G→A5c E C X.deep ops κ r t k listed σ→
  wpAny P .any ops Q t.length listed a w
 |[],k,listed,σ,a,w,G,hs,h=>⟨h.1,hn σ a w G hs h.2⟩
 |o::t,k,listed,σ,a,w,G,hs,h=>by
  obtain⟨h0,h1,h2,σ',h3,h4⟩:=h
  refine⟨fun h=>absurd h h0,fun i hi=>?_⟩
  obtain rfl:=h1 i hi
  have:=W0 (Q:=Q) hE hQ hC hs h3 (next:=wpAny P .any ops Q t.length (listed.setIfInBounds i true)) fun τ a' w' G' ht e=>by
   obtain rfl:=oI e
   exact A7v hE hQ hC hn ht h4
  unfold wpOp
  simp only[h2]
  split
  ·rename_i hw;rw[if_pos hw]at this;exact .inl this
  ·rename_i hw;rw[if_neg hw]at this;exact this
theorem any_ok {C:CF}(hE:B4 P E)(hQ:U2 P E)(hC:A2m P E C){ops:Array Oper}{Z:Array Bool→St→Prop}{RdF TF:Nat→List Nat}{Q:Exit→Act→World→Prop}{m:Nat}
  (hn:∀listed σ' a' w' G',Sim X σ' a' w' G'→Z listed σ'→wpAny P .any ops Q m listed a' w'):∀{n:Nat} {listed:Array Bool} {σ:St} {a:Act} {w:World} {G:Gh},Sim X σ a w G→AnyE E C X.deep ops RdF TF Z n listed σ→
  wpAny P .any ops Q (n+m) listed a w
 |0,listed,σ,a,w,G,hs,h=>by
  obtain⟨σf,h1,h2⟩:=h
  rw[zS]
  exact hn listed σf a w G (hs.same h1) h2
 |n+1,listed,σ,a,w,G,hs,h=>by
  rw[show n+1+m=(n+m)+1 by omega]
  refine⟨fun h0=>absurd h0 h.1,fun i hi=>?_⟩
  obtain⟨o,σ',h1,h2,h3⟩:=h.2 i hi
  have:=W0 (Q:=Q) hE hQ hC hs h2.step (next:=wpAny P .any ops Q (n+m) (listed.setIfInBounds i true)) fun τ a' w' G' ht e=>by
   obtain rfl:=oI e
   exact any_ok hE hQ hC hn ht h3
  unfold wpOp
  simp only[h1]
  split
  ·rename_i hw;rw[if_pos hw]at this;exact .inl this
  ·rename_i hw;rw[if_neg hw]at this;exact this
theorem A9y {C:CF}(hE:B4 P E)(hQ:U2 P E)(hC:A2m P E C)(hD:K2 C){R:Type}{id:Nat}{ops:Array Oper}{κ:St→Option R}{r:R}{Q:Exit→Act→World→Prop}
  (hn:∀σ' a' w' G',Sim X σ' a' w' G'→κ σ'=some r→Q .normal a' w') (hs:Sim X σ a w G) (h:A30 E C X.deep ops (M4 0 (C9 ops.toList [])) σ κ=some r):(Code.region id ops true).wp P Q a w:=by
 have hm:M4 0 (C9 ops.toList [])≤ops.size:=by
  have:=A3k (C9 ops.toList []) 0
  rw[V5]at this
  simpa using this
 obtain⟨RdF,TF,h⟩:=A8u hD hm h
 have:=any_ok (m:=(ops.toList.drop (M4 0 (C9 ops.toList []))).length) (Q:=Q) hE hQ hC (fun listed σ' a' w' G' hs' hz=>A7v hE hQ hC hn hs' hz) (hs.drew (w.drawn+1)) h
 rw[show M4 0 (C9 ops.toList [])+(ops.toList.drop (M4 0 (C9 ops.toList []))).length=ops.size by simp;omega]at this
 exact wp_region_any hE.mixed this
theorem exists_least {p:Nat→Prop}(h:∃j,p j):∃m,p m∧∀j,p j→m≤j:=by
 obtain⟨j,hj⟩:=h
 induction j using Nat.strongRecOn with
 |_ j ih=>
  by_cases hl:∃i,i<j∧p i
  ·obtain⟨i,hi,hp⟩:=hl;exact ih i hi hp
  ·refine⟨j,hj,fun i hi=>?_⟩
   rcases zE1 i j with h|h
   ·exact absurd ⟨i,h,hi⟩ hl
   ·exact h
def Ex.exit':Ex→Exit
 | .normal=> .normal
 | .exit id=> .exit id
 | .ret=> .ret
theorem A2k:∀{s t:List Dir},X1 s t=true→s=t
 |[],[],_=>rfl
 |[],_::_,h=>by cases h
 |_::_,[],h=>by cases h
 |a::s,b::t,h=>by
  simp only[X1]at h
  cases hb:a.same b<;>simp only[hb,zB,zA]at h
  ·cases h
  ·rw[A2k h]
   cases a<;>cases b<;>first|rfl|cases hb
theorem A1w {α:Type}{p:List Dir}{v:α}:∀{t:List (List Dir×α)},A4b p t=some v→(p,v)∈t
 |[],h=>by cases h
 |(q,u)::t,h=>by
  simp only[A4b]at h
  cases hb:X1 q p<;>simp only[hb,zB,zA]at h
  ·exact zF _ (A1w h)
  ·obtain rfl:=oI h
   rw[A2k hb];exact zM ..
theorem Sim.soften (hs:Sim X σ a w G)(hh:∀r row,σ.look r=some row→row.isHol=false):∃G',Sim ⟨false,X.w0,X.Sh,X.A,X.pv⟩ σ a w G':=by
 classical
 obtain⟨deep,w0,Sh,A,pv⟩:=X
 cases deep with
 |false=>exact⟨G,hs⟩
 |true=>
  let kp:Nat→Nat→Prop:=fun q r=>(∃n c,G.hv r= .slice (some ⟨q,0,none⟩) n c)∨∃f ls,σ.look r=some (.box f ls)
  let G':Gh:=⟨fun q=>match G.rt q with
   |some r=>if kp q r then some r else none
   |none=>none,G.hv⟩
  have hrt:∀q r,G'.rt q=some r→G.rt q=some r∧kp q r:=by
   intro q r h
   change (match G.rt q with
    |some r=>if kp q r then some r else none
    |none=>none)=some r at h
   cases e:G.rt q with
   |none=>rw[e]at h;cases h
   |some k=>
    rw[e]at h
    dsimp only at h
    split at h
    ·rename_i hk
     obtain rfl:=oI h
     exact⟨rfl,hk⟩
    ·cases h
  have hrt2:∀q r,G.rt q=some r→kp q r→G'.rt q=some r:=by
   intro q r h hk
   show(match G.rt q with
    |some r=>if kp q r then some r else none
    |none=>none)=some r
   rw[h];exact if_pos hk
  have himm:∀q,Imm ⟨true,w0,Sh,A,pv⟩ σ w.heap G q→Imm ⟨true,w0,Sh,A,pv⟩ σ w.heap G' q:=fun q ⟨h1,h2,h3⟩=>⟨h1,h2,fun r hr=>h3 r (hrt q r hr).1⟩
  have F:Fr ⟨true,w0,Sh,A,pv⟩ σ w.heap G σ w.heap G':=⟨fun q hq=>⟨himm q hq,rfl⟩,fun r f ys _ hr=>⟨ys,hr,rfl,rfl⟩,fun r f ls _ hr=>⟨f,ls,hr,rfl⟩⟩
  have hleaf:∀(l:A0) (v:Value),(∀r∈l.refs,∃row,σ.look r=some row)→A5 ⟨true,w0,Sh,A,pv⟩ σ w.heap G l v→A5 ⟨false,w0,Sh,A,pv⟩ σ w.heap G' l v:=
   fun l v hd hl=>A5.pres F hd (fun r i c _ f ys _ b n cap _=>rfl) hl
  have htv:∀(x:TV) (v:Value),(∀l∈x.leaves,∀r∈l.refs,∃row,σ.look r=some row)→L1 ⟨true,w0,Sh,A,pv⟩ σ w.heap G x v→L1 ⟨false,w0,Sh,A,pv⟩ σ w.heap G' x v:=by
   intro x v hx hr
   cases x with
   |one l=>
    rcases hr with hr|hr
    ·exact .inl hr
    ·exact .inr (hleaf l v (hx l (by simp[TV.leaves])) hr)
   |agg ls=>
    obtain⟨vs,e,hv⟩:=hr
    exact⟨vs,e,hv.monoMem fun l hl v hlv=>hleaf l v (hx l hl) hlv⟩
  refine⟨G',hs.defs,hs.len,fun i hi=>?_,fun r row hr=>?_,?_,fun q r h=>hs.lt q r (hrt q r h).1,fun q r h=>hs.ownA q r (hrt q r h).1,hs.size,hs.frame,hs.os,hs.tape,hs.output,hs.refs,hs.prefs,hs.rrefs⟩
  ·have h0:=hs.slot i hi
   have hr0:=hs.refs i hi
   revert h0 hr0
   generalize σ.slots.getD i A1=av
   generalize a.tmps.getD i undef=v
   intro h0 hr0
   cases av with
   |v x=>exact htv x v (fun l hl r hr=>hr0 r (by simp only[AV.refs,AV.leaves,zB1];exact⟨l,hl,hr⟩)) h0
   |tup xs=>
    obtain⟨vs,e,hv⟩:=h0
    refine⟨vs,e,hv.monoMem fun x hx v hxv=>htv x v (fun l hl r hr=>hr0 r ?_) hxv⟩
    simp only[AV.refs,AV.leaves,zB1];exact⟨l,⟨x,hx,hl⟩,hr⟩
  ·have h0:=hs.row r row hr
   cases row with
   |dead=>trivial
   |data f xs=>
    rcases h0 with⟨e,e'⟩|⟨b,cap,arr,e,fr,ow,e1,e2,e3,e4,e5,e6,e7⟩
    ·exact .inl ⟨e,e'⟩
    ·refine .inr ⟨b,cap,arr,e,fr,ow,e1,e2,hrt2 b r e3 (.inl ⟨_,_,e1⟩),e4,e5,e6,fun i x hx=>(e7 i x hx).rd.mono fun q hq=>?_⟩
     have hq:G.rt q=some r∧q≠b∧ow q=i:=by
      simp only[C0,if_true]at hq;exact hq
     have hl:σ.live r:=⟨_,hr,by simp⟩
     show(if false=true then _ else Imm _ σ w.heap G' q)
     rw[if_neg (by simp)]
     refine⟨hs.lt q r hq.1,?_,fun r' h'=>?_⟩
     ·by_cases hlt:q<w0.heap.size
      ·exact .inr (.inl (hs.ownA q r hq.1 hl hlt))
      ·exact .inr (.inr (Nat.le_of_not_lt hlt))
     ·obtain⟨g1,g2⟩:=hrt q r' h'
      rw[hq.1]at g1
      obtain rfl:=oI g1
      rcases g2 with⟨n,c,g2⟩|⟨f',ls,g2⟩
      ·rw[e1]at g2
       injection g2 with q1 q2 q3
       injection q1 with q1
       injection q1 with q1
       exact absurd q1.symm hq.2.1
      ·rw[hr]at g2;cases g2
   |hol f xs i c n=>have:=hh r _ hr;cases this
   |box f ls=>
    obtain⟨b,arr,e,fr,g1,g2,g3,g4,g5,g6⟩:=h0
    exact⟨b,arr,e,fr,g1,hrt2 b r g2 (.inr ⟨f,ls,hr⟩),g3,g4,g5,g6.monoMem fun l hl v hlv=>hleaf l v (fun q hq=>hs.rrefs r f ls hr q (zB1.mpr ⟨l,hl,hq⟩)) hlv⟩
  ·exact hs.pin.monoMem fun l hl v hlv=>hleaf l v (hs.prefs l hl) hlv
def A9u (p:List Dir):Prop:=∀d∈p,d= .r
theorem A29 {C:CF}(hE:B4 P E)(hQ:U2 P E)(hC:A2m P E C)(hD:K2 C){R:Type}{ks:List (Nat×U8)}{n:Nat}{r:R}{W:Orc R}{c0:Code}{κ0:Ex→St→Option R}{D:List Dir→Prop}{Q0:Exit→Act→World→Prop}
  (h0:∀p js σ,W p (0::js) σ=none) (hW:∀p,D p→∀js j σ r,W p ((j+1)::js) σ=some r→A0u E C X.deep ks n W c0 κ0 p js j σ=some r)
  (hDn:∀d p,D p→d≠ .r→D (d::p))
  (hDr:∀p x y κ js,D p→partAt E C X.deep ks n W c0 κ0 p js=some (.seq x y,κ)→D (.r::p)∨(A9u p∧(∃k,V6 ks y=some k)∧
   ∀σ a w G,Sim X σ a w G→(∀q row,σ.look q=some row→row.isHol=false)→W (.r::p) (1::js) σ=some r→y.wp P Q0 a w)):
  ∀{c:Code} {js:List Nat} {p:List Dir} {κ:Ex→St→Option R} {Q:Exit→Act→World→Prop} {σ:St} {a:Act} {w:World} {G:Gh},D p→(A9u p→Q=Q0)→partAt E C X.deep ks n W c0 κ0 p js=some (c,κ)→
  (∀e σ' a' w' G',Sim X σ' a' w' G'→κ e σ'=some r→Q e.exit' a' w')→Sim X σ a w G→
  B9 E C X.deep ks n W c js p σ κ=some r→c.wp P Q a w:=by
 intro c
 induction c with
 |skip=>intro js p κ Q σ a w G hd hq hp hn hs h;exact wp_skip (hn .normal _ _ _ _ hs (by simpa[B9]using h))
 |label l=>intro js p κ Q σ a w G hd hq hp hn hs h;exact wp_label (hn .normal _ _ _ _ hs (by simpa[B9]using h))
 |region id ops draw=>
  intro js p κ Q σ a w G hd hq hp hn hs h
  simp only[B9]at h
  cases draw<;>simp only[zB,zA]at h
  ·exact wp_region (A31 (Q:=Q) hE hQ hC (fun σ' a' w' G' hs' h'=>hn .normal _ _ _ _ hs' h') (A7y ops) hs h)
  ·exact A9y hE hQ hC hD (fun σ' a' w' G' hs' h'=>hn .normal _ _ _ _ hs' h') hs h
 |seq x y ihx ihy=>
  intro js p κ Q σ a w G hd hq hp hn hs h
  simp only[B9]at h
  refine wp_seq (ihx (hDn _ _ hd (by simp)) (fun h=>absurd (h _ (zM ..)) (by simp)) (by simp only[partAt,hp]) (fun e σ' a' w' G' hs' h'=>?_) hs h)
  cases e with
  |normal=>
   have hqr:A9u (.r::p)→Q=Q0:=fun h=>hq fun d hd=>h d (zF _ hd)
   cases hcut:V6 ks y with
   |none=>
    rw[hcut]at h'
    rcases hDr p x y κ js hd hp with hd'|⟨_,⟨k,hk⟩,_⟩
    ·exact ihy (p:= .r::p) hd' hqr (by simp only[partAt,hp]) hn hs' h'
    ·rw[hcut]at hk;cases hk
   |some k=>
    rw[hcut]at h'
    simp only[A8p,A5g]at h'
    split at h'
    ·rename_i σ2 hσ2
     obtain⟨⟨G2,hs2⟩,hno⟩:=hs'.clean hσ2
     rcases hDr p x y κ js hd hp with hd'|⟨hr,_,hy⟩
     ·have h2:=hW (.r::p) hd' js 0 σ2 r h'
      have hpr:partAt E C X.deep ks n W c0 κ0 (.r::p) js=some (y,κ):=by simp only[partAt,hp]
      refine ihy (p:= .r::p) hd' hqr hpr hn hs2 ?_
      simp only[A0u,hpr]at h2
      cases y<;>first|(simp only[V6]at hcut;cases hcut;done)|exact h2
     ·rw[hq hr]
      exact hy σ2 _ _ G2 hs2 hno h'
    ·cases h'
  |exit id=>
   cases hcut:V6 ks y<;>rw[hcut]at h'<;>exact hn (.exit id) _ _ _ _ hs' h'
  |ret=>
   cases hcut:V6 ks y<;>rw[hcut]at h'<;>exact hn .ret _ _ _ _ hs' h'
 |cond c x y ihx ihy=>
  intro js p κ Q σ a w G hd hq hp hn hs h
  simp only[B9]at h
  split at h
  ·rename_i t
   split at h
   ·rename_i b hb
    have h2:=(hs.tmp hb).2
    cases b<;>simp only[zB,zA]at h
    ·exact wp_cond_false h2 (ihy (p:= .f::p) (hDn _ _ hd (by simp)) (fun h=>absurd (h _ (zM ..)) (by simp)) (by simp only[partAt,hp]) hn (hs.again hb) h)
    ·exact wp_cond_true h2 (ihx (p:= .t::p) (hDn _ _ hd (by simp)) (fun h=>absurd (h _ (zM ..)) (by simp)) (by simp only[partAt,hp]) hn (hs.again hb) h)
   ·cases h
  ·rename_i b
   cases b<;>simp only[zB,zA]at h
   ·exact wp_cond_false rfl (ihy (p:= .f::p) (hDn _ _ hd (by simp)) (fun h=>absurd (h _ (zM ..)) (by simp)) (by simp only[partAt,hp]) hn hs h)
   ·exact wp_cond_true rfl (ihx (p:= .t::p) (hDn _ _ hd (by simp)) (fun h=>absurd (h _ (zM ..)) (by simp)) (by simp only[partAt,hp]) hn hs h)
  ·cases h
 |block id body ih=>
  intro js p κ Q σ a w G hd hq hp hn hs h
  simp only[B9]at h
  refine wp_block (ih (p:= .b::p) (hDn _ _ hd (by simp)) (fun h=>absurd (h _ (zM ..)) (by simp)) (by simp only[partAt,hp]) (fun e σ' a' w' G' hs' h'=>?_) hs h)
  cases e with
  |normal=>exact hn .normal _ _ _ _ hs' h'
  |exit j=>
   simp only[A6o]at h'
   simp only[Ex.exit',Exit.inBlock]
   cases hb:Nat.beq j id<;>simp only[hb,zB,zA]at h'
   ·rw[if_neg (by rintro rfl;simp at hb)]
    exact hn (.exit j) _ _ _ _ hs' h'
   ·rw[if_pos (zN hb)]
    exact hn .normal _ _ _ _ hs' h'
  |ret=>exact hn .ret _ _ _ _ hs' h'
 |loop body ih=>
  intro js p κ Q σ a w G hd hq hp hn hs h
  classical
  simp only[B9]at h
  split at h
  ·rename_i σ1 hσ1
   let J:Nat→Act→World→Prop:=fun j a w=>∃σ G,Sim X σ a w G∧W p (j::js) σ=some r
   let μ:Act→World→Nat:=fun a w=>if h:∃j,J j a w then Classical.choose (exists_least h)else 0
   have hμ:∀j a w,J j a w→μ a w≤j:=by
    intro j a w hj
    have hex:∃j,J j a w:=⟨j,hj⟩
    show(if h:∃j,J j a w then Classical.choose (exists_least h)else 0)≤j
    rw[dif_pos hex]
    exact(Classical.choose_spec (exists_least hex)).2 j hj
   obtain⟨⟨G1,hs1⟩,_⟩:=hs.clean hσ1
   refine wp_loop (fun a w=>∃j,J j a w) μ ⟨n,σ1,G1,hs1,h⟩ fun a w hex=>?_
   have hf:J (Classical.choose (exists_least hex)) a w:=(Classical.choose_spec (exists_least hex)).1
   have hm:μ a w=Classical.choose (exists_least hex):=by
    show(if h:∃j,J j a w then Classical.choose (exists_least h)else 0)=_
    rw[dif_pos hex]
   obtain⟨σ,G,hs,h⟩:=hf
   generalize Classical.choose (exists_least hex)=j at h hm
   cases j with
   |zero=>rw[h0]at h;cases h
   |succ j=>
    have h:=hW p hd js j σ r h
    simp only[A0u,hp]at h
    refine ih (js:=j::js) (p:= .p::p) (hDn _ _ hd (by simp)) (fun h=>absurd (h _ (zM ..)) (by simp)) (by simp only[partAt,hp]) (fun e σ' a' w' G' hs' h'=>?_) hs h
    cases e with
    |normal=>
     simp only[A5g]at h'
     split at h'
     ·rename_i σ2 hσ2
      obtain⟨⟨G2,hs2⟩,_⟩:=hs'.clean hσ2
      have hj:J j a' w':=⟨σ2,G2,hs2,h'⟩
      exact⟨⟨j,hj⟩,by have:=hμ j a' w' hj;omega⟩
     ·cases h'
    |exit id=>exact hn (.exit id) _ _ _ _ hs' h'
    |ret=>exact hn .ret _ _ _ _ hs' h'
  ·cases h
 |exit id=>intro js p κ Q σ a w G hd hq hp hn hs h;exact wp_exit (hn (.exit id) _ _ _ _ hs (by simpa[B9]using h))
 |ret=>intro js p κ Q σ a w G hd hq hp hn hs h;exact wp_ret (hn .ret _ _ _ _ hs (by simpa[B9]using h))
 |_=>intro js p κ Q σ a w G hd hq hp hn hs h;simp[B9]at h
end
end Go.Proofs.Ytalmhjlcjcnidaa.Ev

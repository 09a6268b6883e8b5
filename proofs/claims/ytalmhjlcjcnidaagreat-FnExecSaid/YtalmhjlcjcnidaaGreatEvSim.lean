/- The state relation is kept: one general step, and what follows from it. -/
import Derived.Test.YtalmhjlcjcnidaaGreatEvRel
set_option linter.all false
namespace Go.Proofs.YtalmhjlcjcnidaaGreat.Ev
open Go

theorem A7.mono {α β:Type}{R R':α→β→Prop}(hR:∀a b,R a b→R' a b):∀{l:List α} {m:List β},A7 R l m→A7 R' l m
 |_,_,.nil=> .nil
 |_,_,.cons h t=> .cons (hR _ _ h) (A7.mono hR t)
theorem A7.monoMem {α β:Type}{R R':α→β→Prop}:∀{l:List α} {m:List β},(∀a∈l,∀b,R a b→R' a b)→A7 R l m→A7 R' l m
 |_,_,_,.nil=> .nil
 |_,_,hR,.cons h t=> .cons (hR _ (zM ..) _ h) (A7.monoMem (fun a ha=>hR a (zF _ ha)) t)
theorem A7.length {α β:Type}{R:α→β→Prop}:∀{l:List α} {m:List β},A7 R l m→l.length=m.length
 |_,_,.nil=>rfl
 |_,_,.cons _ t=>by simp[A7.length t]
theorem A7.get {α β:Type}{R:α→β→Prop}:∀{l:List α} {m:List β},A7 R l m→∀{i:Nat} {a:α},l[i]?=some a→∃b,m[i]?=some b∧R a b
 |_,_,.nil,i,a,h=>by simp at h
 |_,_,.cons h t,0,a,e=>by simp at e;subst e;exact⟨_,rfl,h⟩
 |_,_,.cons h t,i+1,a,e=>by simp at e;obtain⟨b,hb,r⟩:=A7.get t e;exact⟨b,by simpa using hb,r⟩
theorem A7.append {α β:Type}{R:α→β→Prop}:∀{l l':List α} {m m':List β},A7 R l m→A7 R l' m'→A7 R (l++l') (m++m')
 |_,_,_,_,.nil,h=>h
 |_,_,_,_,.cons h t,h'=> .cons h (A7.append t h')
theorem A7.take {α β:Type}{R:α→β→Prop}:∀(n:Nat) {l:List α} {m:List β},A7 R l m→A7 R (l.take n) (m.take n)
 |0,_,_,_=>by simpa using A7.nil
 |n+1,_,_,.nil=>by simpa using A7.nil
 |n+1,_,_,.cons h t=>by simpa using A7.cons h (A7.take n t)
theorem A7.drop {α β:Type}{R:α→β→Prop}:∀(n:Nat) {l:List α} {m:List β},A7 R l m→A7 R (l.drop n) (m.drop n)
 |0,_,_,h=>by simpa using h
 |n+1,_,_,.nil=>by simpa using A7.nil
 |n+1,_,_,.cons _ t=>by simpa using A7.drop n t
theorem A7.map {α β γ:Type}{R:α→β→Prop}{R':γ→β→Prop}(f:α→γ)(hR:∀a b,R a b→R' (f a) b):∀{l:List α} {m:List β},A7 R l m→A7 R' (l.map f) m
 |_,_,.nil=> .nil
 |_,_,.cons h t=> .cons (hR _ _ h) (A7.map f hR t)

def A0.noPa (r:Nat):A0→Prop
 | .pa q _ _=>q≠r
 |_=>True
structure A06 (σ:St) (r:Nat):Prop where
 slot:∀i,∀l∈(σ.slots.getD i A1).leaves,l.noPa r
 box:∀q f ls,σ.look q=some (.box f ls)→∀l∈ls,l.noPa r
 pin:∀l∈σ.pins,l.noPa r
def P5:A6→A6→Prop
 |_,.dead=>True
 | .data f xs,.data g ys| .data f xs,.hol g ys _ _ _| .hol f xs _ _ _,.data g ys| .hol f xs _ _ _,.hol g ys _ _ _=>f=g∧xs.length=(cast (by rfl) ys:List g.T).length
 | .box _ _,.box _ _=>True
 |_,_=>False

theorem P5.arr {row row':A6}(hc:P5 row row'){g:Kd}{ys:List g.T}(h:row'.arr=some ⟨g,ys⟩):∃xs:List g.T,row.arr=some ⟨g,xs⟩∧xs.length=ys.length:=by
 cases row'<;>simp only[A6.arr]at h<;>try (cases h;done)
 all_goals
  simp only[zO]at h
  cases h
  cases row<;>simp only[P5]at hc<;>try (cases hc;done)
  all_goals
   obtain⟨rfl,e⟩:=hc
   exact⟨_,rfl,e⟩
theorem P5.box {row row':A6}(hc:P5 row row'){g:Kd}{ls:List A0}(h:row'= .box g ls):∃f ms,row= .box f ms:=by
 subst h
 cases row<;>simp only[P5]at hc
 exact⟨_,_,rfl⟩
theorem St.dat_congr {σ τ:St}{r:Nat}(h:τ.look r=σ.look r){f:Kd}{xs:List f.T}:τ.dat r f xs↔σ.dat r f xs:=by simp only[St.dat,h]

theorem A2.one {o:Bool}{h:Array Obj}{f:Kd}{xs:List f.T}{v:Value}{S:Nat→Prop}(hc:A2 o h (.sl f) xs [v] S):v.oneCell'=true:=by
 simp only[A2]at hc
 rcases hc with⟨_,a,c,e,_⟩|⟨b,off,cap,arr,e,fr,ow,e1,_⟩
 ·simp at e;subst e;rfl
 ·simp at e1;subst e1;rfl
theorem A5.oneCell {X:Ctx}{σ:St}{h:Array Obj}{G:Gh}{l:A0}{v:Value}(hl:A5 X σ h G l v):v.oneCell'=true:=by
 cases l<;>simp only[A5]at hl
 case undef=>exact hl
 case nil=>subst hl;rfl
 case int=>subst hl;rfl
 case bool=>subst hl;rfl
 case str=>subst hl;rfl
 case sh=>exact A2.one hl
 case ow=>exact hl.1
 case sub=>exact hl.1
 case pa=>exact hl.1
 case ptr=>exact hl.1
 case spt=>obtain⟨b,o,arr,e,fr,rfl,_⟩:=hl;rfl
 case clo=>obtain⟨vs,rfl,_⟩:=hl;rfl

section
variable {X:Ctx} {σ σ':St} {h h':Array Obj} {G G':Gh}
structure Fr (X:Ctx) (σ:St) (h:Array Obj) (G:Gh) (σ':St) (h':Array Obj) (G':Gh):Prop where
 imm:∀q,Imm X σ h G q→Imm X σ' h' G' q∧h'[q]?=h[q]?
 data:∀r f ys,(∃row,σ.look r=some row)→σ'.dat r f ys→
  ∃xs,σ.dat r f xs∧xs.length=ys.length∧G'.hv r=G.hv r
 box:∀r f ls,(∃row,σ.look r=some row)→σ'.look r=some (.box f ls)→∃g ms,σ.look r=some (.box g ms)∧G'.hv r=G.hv r
def B0k (σ':St)(h h':Array Obj)(G:Gh)(r:Nat):Prop:=
 ∀f ys,σ'.dat r f ys→∀b n cap,G.hv r= .slice (some ⟨b,0,none⟩) n cap→h'[b]?=h[b]?
theorem K1.pres (F:Fr X σ h G σ' h' G'){f:Kd}{x:f.T}{c:Nat}{v:Value}(hl:K1 X σ h G f x c v):K1 X σ' h' G' f x c v:=by
 obtain⟨b,o,arr,e,fr,rfl,hb,hi,hc⟩:=hl
 exact⟨b,o,arr,e,fr,rfl,by rw[(F.imm _ hi).2];exact hb,(F.imm _ hi).1,(A2.congr (fun q hq=>(F.imm q hq).2) hc).mono fun q hq=>(F.imm q hq).1⟩
theorem S4.pres (F:Fr X σ h G σ' h' G'){c:Cap}{v:Value}(hd:∀r,c= .own r→∃row,σ.look r=some row)(hl:S4 X σ h G c v):S4 X σ' h' G' c v:=by
 cases c with
 |own r=>
  refine⟨hl.1,fun f ls hr=>?_⟩
  obtain⟨g,ms,h1,h2⟩:=F.box r f ls (hd r rfl) hr
  rw[h2];exact hl.2 g ms h1
 |sh f x=>exact K1.pres F hl
theorem A5.pres (F:Fr X σ h G σ' h' G'){l:A0}{v:Value}(hd:∀r∈l.refs,∃row,σ.look r=some row)(hp:∀r i c,l= .pa r i c→B0k σ' h h' G r)
  (hl:A5 X σ h G l v):A5 X σ' h' G' l v:=by
 cases l with
 |undef=>exact hl
 |nil=>exact hl
 |int k n=>exact hl
 |bool b=>exact hl
 |str s=>exact hl
 |sh f xs=>exact(A2.congr (fun q hq=>(F.imm q hq).2) hl).mono fun q hq=>(F.imm q hq).1
 |od f xs=>exact hl
 |ow r=>
  refine⟨hl.1,fun f ys hr=>?_⟩
  obtain⟨xs,h1,_,h2⟩:=F.data r f ys (hd r (by simp[A0.refs])) hr
  rw[h2];exact hl.2 f xs h1
 |sub r off len=>
  refine⟨hl.1,fun f ys hr=>?_⟩
  obtain⟨xs,h1,h3,h2⟩:=F.data r f ys (hd r (by simp[A0.refs])) hr
  rw[h2,←h3];exact hl.2 f xs h1
 |pa r i c=>
  refine⟨hl.1,fun f ys hr=>?_⟩
  obtain⟨xs,h1,h3,h2⟩:=F.data r f ys (hd r (by simp[A0.refs])) hr
  obtain⟨h4,h5,b,n,cap,arr,e,fr,h6,h7,h8⟩:=hl.2 f xs h1
  rw[h2,←h3]
  exact⟨h4,h5,b,n,cap,arr,e,fr,h6,by rw[hp r i c rfl f ys hr b n cap h6];exact h7,h8⟩
 |ptr r i c=>
  refine⟨hl.1,fun f ys hr=>?_,fun f ls hr=>?_⟩
  ·obtain⟨xs,h1,h3,h2⟩:=F.data r f ys (hd r (by simp[A0.refs])) hr
   rw[h2,←h3];exact hl.2.1 f xs h1
  ·obtain⟨g,ms,h1,h2⟩:=F.box r f ls (hd r (by simp[A0.refs])) hr
   rw[h2];exact hl.2.2 g ms h1
 |spt f x c=>exact K1.pres F hl
 |clo g caps=>
  obtain⟨vs,e,hv⟩:=hl
  refine⟨vs,e,hv.monoMem fun c hc v hcv=>S4.pres F (fun r hr=>hd r ?_) hcv⟩
  simp only[A0.refs,List.mem_filterMap]
  exact⟨c,hc,by subst hr;rfl⟩
end
theorem Sim.datRt {X:Ctx}{σ:St}{a:Act}{w:World}{G:Gh}(hs:Sim X σ a w G){r:Nat}{f:Kd}{xs:List f.T}(h:σ.dat r f xs){b n cap:Nat}(hv:G.hv r= .slice (some ⟨b,0,none⟩) n cap):G.rt b=some r:=by
 rcases St.dat_case h with hr|⟨i,c,m,hr⟩
 ·rcases hs.row r _ hr with⟨_,e⟩|⟨b',cap',arr,e,fr,ow,e1,_,e3,_⟩
  ·rw[hv]at e;simp at e
  ·rw[hv]at e1;simp at e1;obtain⟨rfl,_⟩:=e1
   exact e3
 ·obtain⟨_,_,_,_,b',cap',arr,e,fr,ow,e1,_,e3,_⟩:=hs.row r _ hr
  rw[hv]at e1;simp at e1;obtain⟨rfl,_⟩:=e1
  exact e3
theorem Sim.stepG {X:Ctx}{σ σ':St}{a:Act}{w w':World}{G G':Gh}(hs:Sim X σ a w G)(hsl:σ'.slots=σ.slots)(hpi:σ'.pins=σ.pins)
  (hsize:w.heap.size≤w'.heap.size)
  (hos:w'.os=w.os) (htape:w'.tape=w.tape) (hout:w'.output=w.output)
  (hfree:∀q,q<w.heap.size→(∀r,G.rt q=some r→¬σ.live r)→w'.heap[q]?=w.heap[q]?)
  (hown:∀q r,G'.rt q=some r→σ'.live r→q<w.heap.size→∃r0,G.rt q=some r0∧σ.live r0)
  (hlt:∀q r,G'.rt q=some r→q<w'.heap.size)
  (hdom:∀r row,σ.look r=some row→∃row',σ'.look r=some row')
  (hrows:∀r row',σ'.look r=some row'→
   (σ.look r=some row'∧G'.hv r=G.hv r∧(row'≠ .dead→∀q,G.rt q=some r→G'.rt q=some r∧w'.heap[q]?=w.heap[q]?))∨
   (E7 X σ' w'.heap G' r row'∧(∀f ls,row'= .box f ls→∀q∈ls.flatMap A0.refs,∃row,σ'.look q=some row)∧
    ∀row,σ.look r=some row→P5 row row'∧(row'≠ .dead→G'.hv r=G.hv r∧(A06 σ r∨(∃f ls,row'= .box f ls)∨w'.heap=w.heap)))):
  Sim X σ' a w' G':=by
 have himm:∀q,Imm X σ w.heap G q→Imm X σ' w'.heap G' q∧w'.heap[q]?=w.heap[q]?:=by
  intro q ⟨h1,h2,h3⟩
  refine⟨⟨by omega,h2,fun r hr hl=>?_⟩,hfree q h1 h3⟩
  obtain⟨r0,hr0,hl0⟩:=hown q r hr hl h1
  exact h3 r0 hr0 hl0
 have F:Fr X σ w.heap G σ' w'.heap G':=by
  refine⟨himm,fun r f ys hd hr=>?_,fun r f ls hd hr=>?_⟩
  ·obtain⟨row',hr,har⟩:=hr
   rcases hrows r _ hr with⟨h1,h2,_⟩|⟨_,_,h3⟩
   ·exact⟨ys,⟨_,h1,har⟩,rfl,h2⟩
   ·obtain⟨row,hrow⟩:=hd
    obtain⟨hc,hh⟩:=h3 row hrow
    obtain⟨xs,k1,k2⟩:=hc.arr har
    exact⟨xs,⟨_,hrow,k1⟩,k2,(hh (by rintro rfl;cases har)).1⟩
  ·rcases hrows r _ hr with⟨h1,h2,_⟩|⟨_,_,h3⟩
   ·exact⟨f,ls,h1,h2⟩
   ·obtain⟨row,hrow⟩:=hd
    obtain⟨hc,hh⟩:=h3 row hrow
    obtain⟨f0,ls0,rfl⟩:=hc.box rfl
    exact⟨f0,ls0,hrow,(hh (by simp)).1⟩
 have hleaf:∀(l:A0) (v:Value),(∀r∈l.refs,∃row,σ.look r=some row)→(∀r,A06 σ r→l.noPa r)→A5 X σ w.heap G l v→A5 X σ' w'.heap G' l v:=by
  intro l v hd hn hl
  refine A5.pres F hd (fun r i c e=>?_) hl
  subst e
  intro f ys hr b n cap hv
  obtain⟨row',hr,har⟩:=hr
  have hnd:row'≠ .dead:=by rintro rfl;cases har
  rcases hrows r _ hr with hk|⟨_,_,h3⟩
  ·have hrt:G.rt b=some r:=by
    have h0:=hs.row r _ hk.1
    cases row' with
    |dead=>cases har
    |box=>cases har
    |data f0 xs0=>
     rcases h0 with⟨_,e⟩|⟨b',cap',arr,e,fr,ow,e1,_,e3,_⟩
     ·rw[hv]at e;simp at e
     ·rw[hv]at e1;simp at e1;obtain⟨rfl,_⟩:=e1
      exact e3
    |hol f0 xs0 i0 c0 n0=>
     obtain⟨_,_,_,_,b',cap',arr,e,fr,ow,e1,_,e3,_⟩:=h0
     rw[hv]at e1;simp at e1;obtain⟨rfl,_⟩:=e1
     exact e3
   exact(hk.2.2 hnd _ hrt).2
  ·obtain⟨row,hrow⟩:=hd r (by simp[A0.refs])
   rcases((h3 row hrow).2 hnd).2 with h|⟨_,_,h⟩|h
   ·exact absurd rfl (hn r h)
   ·subst h;cases har
   ·rw[h]
 refine⟨hs.defs,by rw[hsl];exact hs.len,?_,?_,?_,hlt,?_,Nat.le_trans hs.size hsize,?_,by rw[hos,hs.os],by rw[htape,hs.tape],by rw[hout,hs.output],?_,?_,?_⟩
 · -- slots
  intro i hi
  rw[hsl]at hi⊢
  have h0:=hs.slot i hi
  have hr0:=hs.refs i hi
  have hn0:∀r,A06 σ r→∀l∈(σ.slots.getD i A1).leaves,l.noPa r:=fun r hn=>hn.slot i
  revert h0 hr0 hn0
  generalize σ.slots.getD i A1=av
  generalize a.tmps.getD i undef=v
  intro h0 hr0 hn0
  have htv:∀(x:TV) (v:Value),(∀l∈x.leaves,(∀r∈l.refs,∃row,σ.look r=some row)∧∀r,A06 σ r→l.noPa r)→L1 X σ w.heap G x v→L1 X σ' w'.heap G' x v:=by
   intro x v hx hr
   cases x with
   |one l=>
    rcases hr with hr|hr
    ·exact .inl hr
    ·exact .inr (hleaf l v (hx l (by simp[TV.leaves])).1 (hx l (by simp[TV.leaves])).2 hr)
   |agg ls=>
    obtain⟨vs,e,hv⟩:=hr
    exact⟨vs,e,hv.monoMem fun l hl v hlv=>hleaf l v (hx l hl).1 (hx l hl).2 hlv⟩
  cases av with
  |v x=>exact htv x v (fun l hl=>⟨fun r hr=>hr0 r (by simp only[AV.refs,AV.leaves,zB1];exact⟨l,hl,hr⟩),fun r hn=>hn0 r hn l hl⟩) h0
  |tup xs=>
   obtain⟨vs,e,hv⟩:=h0
   refine⟨vs,e,hv.monoMem fun x hx v hxv=>htv x v (fun l hl=>⟨fun r hr=>hr0 r ?_,fun r hn=>hn0 r hn l ?_⟩) hxv⟩
   ·simp only[AV.refs,AV.leaves,zB1];exact⟨l,⟨x,hx,hl⟩,hr⟩
   ·simp only[AV.leaves,zB1];exact⟨x,hx,hl⟩
 · -- rows
  intro r row' hr
  rcases hrows r row' hr with⟨h1,h2,h3⟩|⟨h4,_⟩
  ·have h0:=hs.row r row' h1
   cases row' with
   |dead=>trivial
   |data f xs=>
    rcases h0 with⟨e,e'⟩|⟨b,cap,arr,e,fr,ow,e1,e2,e3,e4,e5,e6,e7⟩
    ·exact .inl ⟨e,by rw[h2];exact e'⟩
    ·have hk:=h3 (by simp)
     refine .inr ⟨b,cap,arr,e,fr,ow,by rw[h2];exact e1,e2,(hk b e3).1,by rw[(hk b e3).2];exact e4,e5,e6,fun i x hx=>?_⟩
     refine(A2.congr ?_ (e7 i x hx)).mono ?_
     ·intro q hq
      unfold C0 at hq
      split at hq
      ·exact(hk q hq.1).2
      ·exact(himm q hq).2
     ·intro q hq
      unfold C0 at hq⊢
      split at hq
      ·rename_i hd;rw[if_pos hd];exact⟨(hk q hq.1).1,hq.2⟩
      ·rename_i hd;rw[if_neg hd];exact(himm q hq).1
   |hol f xs i c n=>
    obtain⟨g1,g2,g3,⟨nrow,g4⟩,b,cap,arr,e,fr,ow,e1,e2,e3,e4,e5,e6,e7,e8⟩:=h0
    have hk:=h3 (by simp)
    have hc1:∀j q,C0 X σ w.heap G r b j ow q→w'.heap[q]?=w.heap[q]?:=by
     intro j q hq
     unfold C0 at hq
     rw[if_pos g1]at hq
     exact(hk q hq.1).2
    have hm1:∀j q,C0 X σ w.heap G r b j ow q→C0 X σ' w'.heap G' r b j ow q:=by
     intro j q hq
     unfold C0 at hq⊢
     rw[if_pos g1]at hq⊢
     exact⟨(hk q hq.1).1,hq.2⟩
    refine⟨g1,g2,g3,hdom n nrow g4,b,cap,arr,e,fr,ow,by rw[h2];exact e1,e2,(hk b e3).1,by rw[(hk b e3).2];exact e4,e5,e6,fun j x hx=>⟨fun hj=>?_,fun hj=>?_⟩,fun g ys hn=>?_⟩
    ·exact(A2.congr (hc1 j) ((e7 j x hx).1 hj)).mono (hm1 j)
    ·exact(C6.congr (hc1 j) ((e7 j x hx).2 hj)).mono (hm1 j)
    ·obtain⟨zs,k1,_,k3⟩:=F.data n g ys ⟨nrow,g4⟩ hn
     rw[k3];exact e8 g zs k1
   |box f ls=>
    obtain⟨b,arr,e,fr,e1,e3,e4,e6,e7,e8⟩:=h0
    have hk:=h3 (by simp)
    refine⟨b,arr,e,fr,by rw[h2];exact e1,(hk b e3).1,by rw[(hk b e3).2];exact e4,e6,e7,e8.monoMem fun l hl v hlv=>?_⟩
    exact hleaf l v (fun q hq=>hs.rrefs r f ls h1 q (by simp only[zB1];exact⟨l,hl,hq⟩)) (fun q hn=>hn.box r f ls h1 l hl) hlv
  ·exact h4
 · -- pins
  rw[hpi]
  exact hs.pin.monoMem fun l hl v hlv=>hleaf l v (hs.prefs l hl) (fun r hn=>hn.pin l hl) hlv
 ·intro q r hr hl hq
  obtain⟨r0,h1,h2⟩:=hown q r hr hl (by have:=hs.size;omega)
  exact hs.ownA q r0 h1 h2 hq
 ·intro q hq hA
  rw[←hs.frame q hq hA]
  exact hfree q (by have:=hs.size;omega) fun r hr hl=>hA (hs.ownA q r hr hl hq)
 ·intro i hi r hr
  rw[hsl]at hi hr
  obtain⟨row,hrow⟩:=hs.refs i hi r hr
  exact hdom r row hrow
 ·intro l hl r hr
  rw[hpi]at hl
  obtain⟨row,hrow⟩:=hs.prefs l hl r hr
  exact hdom r row hrow
 ·intro r f ls hr q hq
  rcases hrows r _ hr with⟨h1,_,_⟩|⟨_,h2,_⟩
  ·obtain⟨row,hrow⟩:=hs.rrefs r f ls h1 q hq
   exact hdom q row hrow
  ·exact h2 f ls rfl q hq

theorem Sim.step {X:Ctx}{σ σ':St}{a:Act}{w w':World}{G G':Gh}(hs:Sim X σ a w G)(hsl:σ'.slots=σ.slots)(hpi:σ'.pins=σ.pins)
  (hsize:w.heap.size≤w'.heap.size)
  (hos:w'.os=w.os) (htape:w'.tape=w.tape) (hout:w'.output=w.output)
  (hfree:∀q,q<w.heap.size→(∀r,G.rt q=some r→¬σ.live r)→w'.heap[q]?=w.heap[q]?)
  (hown:∀q r,G'.rt q=some r→σ'.live r→q<w.heap.size→∃r0,G.rt q=some r0∧σ.live r0)
  (hlt:∀q r,G'.rt q=some r→q<w'.heap.size)
  (hdom:∀r row,σ.look r=some row→∃row',σ'.look r=some row')
  (hrows:∀r row',σ'.look r=some row'→
   (σ.look r=some row'∧G'.hv r=G.hv r∧(row'≠ .dead→∀q,G.rt q=some r→G'.rt q=some r∧w'.heap[q]?=w.heap[q]?))∨
   (E7 X σ' w'.heap G' r row'∧(∀f ls,row'= .box f ls→∀q∈ls.flatMap A0.refs,∃row,σ'.look q=some row)∧
    ∀row,σ.look r=some row→P5 row row'∧(row'≠ .dead→G'.hv r=G.hv r∧(A06 σ r∨∃f ls,row'= .box f ls)))):
  Sim X σ' a w' G':=hs.stepG hsl hpi hsize hos htape hout hfree hown hlt hdom fun r row' hr=>(hrows r row' hr).imp id fun⟨h1,h2,h3⟩=>⟨h1,h2,fun row h=>⟨(h3 row h).1,fun hd=>⟨((h3 row h).2 hd).1,((h3 row h).2 hd).2.imp id .inl⟩⟩⟩
theorem A8y {α:Type}(l:List α)(i j:Nat)(x d:α):(l.set i x).getD j d=if i=j∧i<l.length then x else l.getD j d:=by
 by_cases h:i=j
 ·subst h
  by_cases h':i<l.length
  ·simp[h',List.getD]
  ·simp[h',List.getD,List.set_eq_of_length_le (Nat.le_of_not_lt h')]
 ·simp[h,List.getD]
theorem A7x (l:Array Value)(i j:Nat)(x d:Value):(l.setIfInBounds i x).getD j d=if i=j∧i<l.size then x else l.getD j d:=by
 by_cases h:i=j
 ·subst h
  by_cases h':i<l.size
  ·simp[h',Array.getD]
  ·simp[h',Array.getD]
 ·simp[h,Array.getD]
  split<;>simp_all
theorem St.look_put (σ:St)(d:Option Nat)(av:AV)(r:Nat):(σ.put d av).look r=σ.look r:=by cases d<;>rfl
theorem St.live_put (σ:St)(d:Option Nat)(av:AV)(r:Nat):(σ.put d av).live r↔σ.live r:=by simp only[St.live,St.look_put]
theorem St.pins_put (σ:St)(d:Option Nat)(av:AV):(σ.put d av).pins=σ.pins:=by cases d<;>rfl
section
variable {X:Ctx} {σ τ:St} {h:Array Obj} {G:Gh} (hl:∀r,τ.look r=σ.look r)
include hl
theorem Imm.look {q:Nat}:Imm X σ h G q↔Imm X τ h G q:=by simp only[Imm,St.live,hl]
theorem A5.look:∀{l:A0} {v:Value},A5 X σ h G l v↔A5 X τ h G l v:=by
 have e:Imm X τ h G=Imm X σ h G:=funext fun q=>propext (Imm.look hl).symm
 have s:∀f x c v,K1 X τ h G f x c v=K1 X σ h G f x c v:=fun f x c v=>by simp only[K1,e]
 have k:S4 X τ h G=S4 X σ h G:=funext fun c=>funext fun v=>by cases c<;>simp only[S4,s,hl]
 intro l v
 cases l<;>simp only[A5,St.dat,hl,e,s,k]
theorem L1.look:∀{x:TV} {v:Value},L1 X σ h G x v↔L1 X τ h G x v:=by
 have e:A5 X τ h G=A5 X σ h G:=funext fun l=>funext fun v=>propext (A5.look hl).symm
 intro x v
 cases x<;>simp only[L1,e]
theorem S8.look:∀{x:AV} {v:Value},S8 X σ h G x v↔S8 X τ h G x v:=by
 have e:L1 X τ h G=L1 X σ h G:=funext fun l=>funext fun v=>propext (L1.look hl).symm
 intro x v
 cases x<;>simp only[S8,e]
theorem E7.look {r:Nat}:∀{row:A6},E7 X σ h G r row↔E7 X τ h G r row:=by
 have e:A5 X τ h G=A5 X σ h G:=funext fun l=>funext fun v=>propext (A5.look hl).symm
 have s:∀b i ow,C0 X τ h G r b i ow=C0 X σ h G r b i ow:=fun b i ow=>funext fun q=>by
  simp only[C0];split
  ·rfl
  ·exact propext (Imm.look hl).symm
 intro row
 cases row<;>simp only[E7,St.dat,e,s,hl]
end
theorem Act.size_put (a:Act)(d:Option Nat)(v:Value):(a.put d v).tmps.size=a.tmps.size:=by cases d<;>simp[Act.put]
theorem Act.defers_put (a:Act)(d:Option Nat)(v:Value):(a.put d v).defers=a.defers:=by cases d<;>rfl
theorem Sim.put {X:Ctx}{σ:St}{a:Act}{w:World}{G:Gh}(hs:Sim X σ a w G){d:Option Nat}{av:AV}{v:Value}
  (hv:S8 X σ w.heap G av v) (hr:∀r∈av.refs,∃row,σ.look r=some row):Sim X (σ.put d av) (a.put d v) w G:=by
 have hl:∀r,(σ.put d av).look r=σ.look r:=σ.look_put d av
 have hslot:∀(P:AV→Value→Prop),P av v→∀i,P (σ.slots.getD i A1) (a.tmps.getD i undef)→P ((σ.put d av).slots.getD i A1) ((a.put d v).tmps.getD i undef):=by
  intro P hP i hi
  cases d with
  |none=>exact hi
  |some d=>
   simp only[St.put,Act.put,A8y,A7x,hs.len]
   by_cases hc:d=i∧d<σ.slots.length
   ·rw[if_pos hc,if_pos hc];exact hP
   ·rw[if_neg hc,if_neg hc];exact hi
 have hlen:(σ.put d av).slots.length=σ.slots.length:=by cases d<;>simp[St.put]
 refine⟨by rw[Act.defers_put];exact hs.defs,by rw[Act.size_put,hlen];exact hs.len,?_,?_,?_,hs.lt,?_,hs.size,hs.frame,hs.os,hs.tape,hs.output,?_,?_,?_⟩
 ·intro i hi
  rw[hlen]at hi
  exact hslot (fun x y=>S8 X (σ.put d av) w.heap G x y) ((S8.look hl).mp hv) i ((S8.look hl).mp (hs.slot i hi))
 ·intro r row hrow
  rw[hl]at hrow
  exact(E7.look hl).mp (hs.row r row hrow)
 ·rw[St.pins_put];exact hs.pin.mono fun l v h=>(A5.look hl).mp h
 ·intro q r h1 h2;exact hs.ownA q r h1 ((St.live_put ..).mp h2)
 ·intro i hi
  rw[hlen]at hi
  have:=hslot (fun x _=>∀r∈x.refs,∃row,(σ.put d av).look r=some row) (by simpa only[hl]using hr) i (by simpa only[hl]using hs.refs i hi)
  exact this
 ·rw[St.pins_put];simpa only[hl]using hs.prefs
 ·simpa only[hl]using hs.rrefs
end Go.Proofs.YtalmhjlcjcnidaaGreat.Ev

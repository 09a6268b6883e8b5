/- New rows, used rows, rows written anew. -/
import Derived.Test.YtalmhjlcjcnidaaEvOps3
set_option linter.all false
namespace Go.Proofs.Ytalmhjlcjcnidaa.Ev
open Go
theorem A1o {m n:Nat}(h:n≠m):Nat.beq m n=false:=by
 cases e:Nat.beq m n
 ·rfl
 ·exact absurd (zN e).symm h
theorem R3 (n:Nat)(v:A6)(r:Nat):∀rows:List (Nat×A6),look r (W5 n v rows)=if r=n then some v else look r rows
 |[]=>by
  simp only[W5,look]
  by_cases h:r=n
  ·subst h;simp
  ·have:Nat.beq n r=false:=A1o h
   simp[this,h]
 |(k,u)::t=>by
  simp only[W5]
  cases h1:Nat.blt n k<;>simp only[zB,zA]
  ·cases h2:Nat.beq k n<;>simp only[zB,zA]
   ·simp only[look]
    by_cases h:r=n
    ·subst h
     simp only[h2,zA,R3 r v r t,if_true]
    ·rw[R3 n v r t,if_neg h,if_neg h]
   ·have e:k=n:=by simpa using h2
    subst e
    simp only[look]
    by_cases h:r=k
    ·subst h;simp
    ·have:Nat.beq k r=false:=A1o h
     simp[this,h]
  ·simp only[look]
   by_cases h:r=n
   ·subst h;simp
   ·have:Nat.beq n r=false:=A1o h
    simp[this,h]
theorem A3 (σ:St)(n r:Nat)(v:A6):(σ.setRow n v).look r=if r=n then some v else σ.look r:=R3 n v r σ.rows
theorem A9 (r:Nat):∀(rs:List Nat) (σ:St),(σ.kill rs).look r=if r∈rs then some .dead else σ.look r:=by
 have key:∀(rs:List Nat) (rows:List (Nat×A6)),look r (rs.foldl (fun l r=>W5 r .dead l) rows)=if r∈rs then some .dead else look r rows:=by
  intro rs
  induction rs with
  |nil=>intro rows;simp
  |cons k t ih=>
   intro rows
   simp only[List.foldl_cons,ih,R3,List.mem_cons]
   by_cases h1:r∈t
   ·simp[h1]
   ·by_cases h2:r=k<;>simp[h1,h2]
 intro rs σ
 exact key rs σ.rows
theorem B0u (σ:St)(rs:List Nat):(σ.kill rs).slots=σ.slots:=rfl
section
variable {P:Program} {E:Env} {X:Ctx} {σ σ':St} {a:Act} {w w':World} {G:Gh}
def Gh.take (G:Gh)(w w':World)(used own:List Nat)(n:Nat)(v:Value):Gh:=
 {rt:=fun q=>if q<w.heap.size then(match G.rt q with
   |some r=>if r∈used then(if r∈own then some n else none)else if r=n then none else some r
   |none=>none)else if q<w'.heap.size then some n else none
  hv:=fun r=>if r=n then v else G.hv r}
theorem Gh.take_rt {used own:List Nat}{n:Nat}{v:Value}{q:Nat}(hq:q<w.heap.size){r:Nat}(hr:G.rt q=some r):
  (G.take w w' used own n v).rt q=if r∈used then(if r∈own then some n else none)else if r=n then none else some r:=by
 simp[Gh.take,hq,hr]
theorem Gh.take_new {used own:List Nat}{n:Nat}{v:Value}{q:Nat}(hq:¬q<w.heap.size)(hq':q<w'.heap.size):(G.take w w' used own n v).rt q=some n:=by
 simp[Gh.take,hq,hq']
theorem Gh.take_hv {used own:List Nat}{n:Nat}{v:Value}:(G.take w w' used own n v).hv n=v:=by simp[Gh.take]
theorem Sim.newRow (hs:Sim X σ a w G){used own:List Nat}(hused:∀r∈used,∃f xs,σ.look r=some (.data f xs)){n:Nat}(hn:σ.look n=none)
  (hsize:w.heap.size≤w'.heap.size) (hos:w'.os=w.os) (htape:w'.tape=w.tape) (hout:w'.output=w.output)
  (hfree:∀q,q<w.heap.size→(∀r∈used,G.rt q≠some r)→w'.heap[q]?=w.heap[q]?) {row:A6} {v:Value}
  (hrow:E7 X ((σ.kill used).setRow n row) w'.heap (G.take w w' used own n v) n row)
  (hbox:∀f ls,row= .box f ls→∀q∈ls.flatMap A0.refs,∃row',((σ.kill used).setRow n row).look q=some row'):
  Sim X ((σ.kill used).setRow n row) a w' (G.take w w' used own n v):=by
 have hnu:n∉used:=fun h=>by obtain⟨f,xs,e⟩:=hused n h;rw[hn]at e;cases e
 have hlook:∀r,((σ.kill used).setRow n row).look r=if r=n then some row else if r∈used then some .dead else σ.look r:=by
  intro r;rw[A3,A9]
 refine hs.step rfl rfl hsize hos htape hout (fun q hq hno=>hfree q hq fun r hr e=>?_) ?_ ?_ ?_ ?_
 ·obtain⟨f,xs,h⟩:=hused r hr
  exact hno r e ⟨_,h,by simp⟩
 ·intro q r hr hl hq
  cases hg:G.rt q with
  |none=>simp[Gh.take,hq,hg]at hr
  |some r0=>
   rw[Gh.take_rt hq hg]at hr
   refine⟨r0,rfl,?_⟩
   split at hr
   ·rename_i hu;obtain⟨f,xs,h⟩:=hused r0 hu;exact⟨_,h,by simp⟩
   ·rename_i hu
    split at hr
    ·cases hr
    ·rename_i hne
     obtain rfl:=oI hr
     obtain⟨row',h1,h2⟩:=hl
     rw[hlook,if_neg hne,if_neg hu]at h1
     exact⟨row',h1,h2⟩
 ·intro q r hr
  by_cases hq:q<w.heap.size
  ·omega
  ·by_cases hq':q<w'.heap.size
   ·exact hq'
   ·simp[Gh.take,hq,hq']at hr
 ·intro r row' hr
  rw[hlook]
  split
  ·exact⟨_,rfl⟩
  ·split
   ·exact⟨_,rfl⟩
   ·exact⟨_,hr⟩
 ·intro r row' hr
  rw[hlook]at hr
  by_cases h1:r=n
  ·subst h1
   rw[if_pos rfl]at hr
   obtain rfl:=oI hr
   exact .inr ⟨hrow,fun f ls e=>hbox f ls e,fun row0 h0=>by rw[hn]at h0;cases h0⟩
  ·rw[if_neg h1]at hr
   by_cases h2:r∈used
   ·rw[if_pos h2]at hr
    obtain rfl:=oI hr
    exact .inr ⟨trivial,fun f ls e=>(by cases e),fun row0 h0=>⟨by cases row0<;>trivial,fun h=>absurd rfl h⟩⟩
   ·rw[if_neg h2]at hr
    refine .inl ⟨hr,by simp[Gh.take,h1],fun _ q hq=>?_⟩
    have hlt:=hs.lt q r hq
    refine⟨by rw[Gh.take_rt hlt hq,if_neg h2,if_neg h1],hfree q hlt fun r' hr' e=>?_⟩
    rw[hq]at e;obtain rfl:=oI e;exact h2 hr'
theorem A1i {used own:List Nat}(hused:∀r∈used,∃f xs,σ.look r=some (.data f xs)){n:Nat}
  (hsize:w.heap.size≤w'.heap.size) {row:A6} {v:Value} {q:Nat} (hq:Imm X σ w.heap G q):Imm X ((σ.kill used).setRow n row) w'.heap (G.take w w' used own n v) q:=by
 obtain⟨h1,h2,h3⟩:=hq
 refine⟨by omega,h2,fun r hr hl=>?_⟩
 cases hg:G.rt q with
 |none=>simp[Gh.take,h1,hg]at hr
 |some r0=>
  rw[Gh.take_rt h1 hg]at hr
  split at hr
  ·rename_i hu;obtain⟨f,xs,h⟩:=hused r0 hu;exact h3 r0 hg ⟨_,h,by simp⟩
  ·rename_i hu
   split at hr
   ·cases hr
   ·rename_i hne
    obtain rfl:=oI hr
    obtain⟨row',k1,k2⟩:=hl
    rw[A3,if_neg hne,A9,if_neg hu]at k1
    exact h3 r0 hg ⟨row',k1,k2⟩
def U6 (X:Ctx)(σ:St)(h:Array Obj)(G:Gh)(used:List Nat)(q:Nat):Prop:=
 (∃r∈used,G.rt q=some r)∨(X.deep=false∧Imm X σ h G q)
theorem U6.mono {h:Array Obj}{u u':List Nat}(hu:∀r∈u,r∈u'){q:Nat}(hq:U6 X σ h G u q):U6 X σ h G u' q:=by
 rcases hq with⟨r,hr,e⟩|hq
 ·exact .inl ⟨r,hu r hr,e⟩
 ·exact .inr hq
theorem A9n (hs:Sim X σ a w G){f:Kd}{l:A0}{xs:List f.T}{used:List Nat}{v:Value}(h:A3s X.deep σ.rows f l=some (xs,used))(hl:A5 X σ w.heap G l v):
  A2 X.deep w.heap (.sl f) xs [v] (U6 X σ w.heap G used)∧(∀r∈used,∃g ys,σ.look r=some (.data g ys))∧used ⊆ l.refs:=by
 unfold A3s at h
 split at h
 ·rename_i g ys
  cases hd:X.deep<;>simp only[hd,zB,zA]at h
  ·split at h
   ·rename_i e;subst e
    obtain⟨rfl,rfl⟩:=zQ (oI h)
    refine⟨?_,by simp,by simp⟩
    exact A2.mono (fun q hq=> .inr ⟨hd,hq⟩) hl
   ·cases h
  ·cases h
 ·obtain⟨rfl,rfl⟩:=zQ (oI h)
  simp only[A5]at hl
  subst hl
  refine⟨?_,by simp,by simp⟩
  simp only[A2]
  exact .inl ⟨trivial,none,0,rfl,fun _=>⟨rfl,rfl⟩⟩
 ·rename_i r
  split at h
  ·rename_i g ys hr
   split at h
   ·rename_i e;subst e
    obtain⟨rfl,rfl⟩:=zQ (oI h)
    have hr':σ.look r=some (.data g ys):=hr
    refine⟨?_,by simpa using⟨g,ys,hr'⟩,by simp[A0.refs]⟩
    have hv:=hl.2 g ys (St.dat_of hr')
    show A2 X.deep w.heap (.sl g) ys [v] _
    simp only[A2]
    rcases hs.row r _ hr' with⟨rfl,e⟩|⟨b,cap,arr,e,fr,ow,d1,d2,d3,d4,d5,d6,d7⟩
    ·exact .inl ⟨rfl,none,0,by rw[hv,e],fun _=>⟨rfl,rfl⟩⟩
    ·refine .inr ⟨b,0,cap,arr,e,fr,ow,by rw[hv,d1],d2,.inl ⟨r,by simp,d3⟩,d4,fun _=>⟨rfl,d5,d6⟩,fun i x hx=>?_⟩
     rw[zS]
     refine(d7 i x hx).mono fun q hq=>?_
     unfold C0 at hq
     split at hq
     ·exact⟨.inl ⟨r,by simp,hq.1⟩,fun _=>hq.2⟩
     ·rename_i hd
      have hd':X.deep=false:=by simpa using hd
      exact⟨.inr ⟨hd',hq⟩,fun h=>absurd h hd⟩
   ·cases h
  ·cases h
 ·cases h
theorem H0 {u v:List Nat}(h:distinct (u++v)=true):distinct u=true∧distinct v=true∧∀r∈u,r∉v:=by
 induction u with
 |nil=>exact⟨by simp[distinct],h,by simp⟩
 |cons k t ih=>
  simp only[List.cons_append,distinct]at h
  cases hm:E6 k (t++v)<;>simp only[hm,zB,zA]at h
  ·obtain⟨h1,h2,h3⟩:=ih h
   have hk:k∉t++v:=by
    intro hmem
    have:∀l:List Nat,k∈l→E6 k l=true:=by
     intro l
     induction l with
     |nil=>simp
     |cons j l ih=>
      intro hl
      simp only[E6]
      cases hb:Nat.beq j k<;>simp only[zB,zA]
      ·rcases List.mem_cons.mp hl with rfl|hl
       ·simp at hb
       ·exact ih hl
    rw[this _ hmem]at hm;cases hm
   simp only[zY,not_or]at hk
   refine⟨?_,h2,?_⟩
   ·simp only[distinct]
    have:E6 k t=false:=by
     cases hb:E6 k t
     ·rfl
     ·have:∀l:List Nat,E6 k l=true→k∈l:=by
       intro l
       induction l with
       |nil=>simp[E6]
       |cons j l ih=>
        simp only[E6]
        cases hb:Nat.beq j k<;>simp only[zB,zA]
        ·intro h;exact zF _ (ih h)
        ·intro _;rw[zN hb];exact zM ..
      exact absurd (this t hb) hk.1
    rw[this,zA];exact h1
   ·intro r hr
    rcases List.mem_cons.mp hr with rfl|hr
    ·exact hk.2
    ·exact h3 r hr
  ·cases h
theorem D6 {k:Nat}:∀{l:List Nat},E6 k l=true↔k∈l
 |[]=>by simp[E6]
 |j::l=>by
  simp only[E6]
  cases hb:Nat.beq j k<;>simp only[zB,zA]
  ·rw[D6 (l:=l),List.mem_cons]
   constructor
   ·exact .inr
   ·rintro(rfl|h)
    ·simp at hb
    ·exact h
  ·rw[zN hb];simp
theorem T9 (hs:Sim X σ a w G):∀{f:Kd} {ls:List A0} {x:f.T} {used:List Nat} {rest:List A0} {vs:List Value},A4 X.deep σ.rows f ls=some (x,used,rest)→
  A7 (A5 X σ w.heap G) ls vs→distinct used=true→∃v1 v2,vs=v1++v2∧A7 (A5 X σ w.heap G) rest v2∧A2 X.deep w.heap f x v1 (U6 X σ w.heap G used)∧
   (∀r∈used,∃g ys,σ.look r=some (.data g ys))∧(∀r∈used,r∈ls.flatMap A0.refs)∧∀l∈rest,l∈ls:=by
 intro f
 induction f with
 |int k=>
  intro ls x used rest vs h hl hd
  cases ls with
  |nil=>simp[A4]at h
  |cons l t=>
   cases l<;>simp only[A4]at h<;>try (cases h;done)
   rename_i j n
   cases hk:decide (j=k)<;>simp only[hk,zB,zA]at h
   ·cases h
   ·obtain⟨rfl,hz⟩:=zQ (oI h)
    obtain⟨rfl,rfl⟩:=zQ hz
    cases hl with
    |cons r tl=>
     rw[zG]at hk;subst hk
     exact⟨[_],_,rfl,tl,by simp only[A2];rw[r],by simp,by simp,fun l hl=>zF _ hl⟩
 |bool=>
  intro ls x used rest vs h hl hd
  cases ls with
  |nil=>simp[A4]at h
  |cons l t=>
   cases l<;>simp only[A4]at h<;>try (cases h;done)
   obtain⟨rfl,hz⟩:=zQ (oI h)
   obtain⟨rfl,rfl⟩:=zQ hz
   cases hl with
   |cons r tl=>exact⟨[_],_,rfl,tl,by simp only[A2];rw[r],by simp,by simp,fun l hl=>zF _ hl⟩
 |str=>
  intro ls x used rest vs h hl hd
  cases ls with
  |nil=>simp[A4]at h
  |cons l t=>
   cases l<;>simp only[A4]at h<;>try (cases h;done)
   obtain⟨rfl,hz⟩:=zQ (oI h)
   obtain⟨rfl,rfl⟩:=zQ hz
   cases hl with
   |cons r tl=>exact⟨[_],_,rfl,tl,by simp only[A2];rw[r],by simp,by simp,fun l hl=>zF _ hl⟩
 |sl f _=>
  intro ls x used rest vs h hl hd
  cases ls with
  |nil=>simp[A4]at h
  |cons l t=>
   simp only[A4]at h
   obtain⟨⟨ys,us⟩,hq,h⟩:=oB h
   obtain⟨rfl,hz⟩:=zQ (oI h)
   obtain⟨rfl,rfl⟩:=zQ hz
   cases hl with
   |cons r tl=>
    obtain⟨h1,h2,h3⟩:=A9n hs hq r
    exact⟨[_],_,rfl,tl,h1,h2,fun r hr=>by simp only[zV,zY];exact .inl (h3 hr),fun l hl=>zF _ hl⟩
 |pair a b iha ihb=>
  intro ls x used rest vs h hl hd
  have h':((A4 X.deep σ.rows a ls).bind fun q=>(A4 X.deep σ.rows b q.2.2).bind fun p=>some ((q.1,p.1),q.2.1++p.2.1,p.2.2))=some (x,used,rest):=by
   cases ls<;>simpa[A4]using h
  obtain⟨⟨xa,ua,ra⟩,ha,h'⟩:=oB h'
  obtain⟨⟨xb,ub,rb⟩,hb,h'⟩:=oB h'
  obtain⟨rfl,hz⟩:=zQ (oI h')
  obtain⟨rfl,rfl⟩:=zQ hz
  obtain⟨d1,d2,d3⟩:=H0 hd
  obtain⟨v1,v2,rfl,k1,k2,k3,k4,k5⟩:=iha ha hl d1
  obtain⟨w1,w2,rfl,m1,m2,m3,m4,m5⟩:=ihb hb k1 d2
  refine⟨v1++w1,w2,by simp,m1,?_,?_,?_,fun l hl=>k5 l (m5 l hl)⟩
  ·simp only[A2]
   refine⟨v1,w1,fun q=>match G.rt q with|some r=>E6 r ua|none=>false,rfl,k2.mono fun q hq=>?_,m2.mono fun q hq=>?_⟩
   ·refine⟨hq.mono fun r hr=>zZ _ hr,fun hdp=>?_⟩
    rcases hq with⟨r,hr,e⟩|⟨hf,_⟩
    ·simp[e,D6,hr]
    ·rw[hdp]at hf;cases hf
   ·refine⟨hq.mono fun r hr=>zA1 _ hr,fun hdp=>?_⟩
    rcases hq with⟨r,hr,e⟩|⟨hf,_⟩
    ·simp only[e]
     cases hm:E6 r ua
     ·rfl
     ·exact absurd hr (d3 r (D6.mp hm))
    ·rw[hdp]at hf;cases hf
  ·intro r hr
   rcases zY.mp hr with hr|hr
   ·exact k3 r hr
   ·exact m3 r hr
  ·intro r hr
   rcases zY.mp hr with hr|hr
   ·exact k4 r hr
   ·have:=m4 r hr
    simp only[zB1]at this⊢
    obtain⟨l,hl,hr⟩:=this
    exact⟨l,k5 l hl,hr⟩
end
end Go.Proofs.Ytalmhjlcjcnidaa.Ev

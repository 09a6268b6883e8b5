/- Rows numbered anew: the state at a loop's head has one shape. -/
import Derived.Test.YtalmhjlcjcnidaaEvCall4
set_option linter.all false
namespace Go.Proofs.Ytalmhjlcjcnidaa.Ev
open Go
section
variable {P:Program} {E:Env} {X:Ctx} {σ σ':St} {a:Act} {w w':World} {G:Gh}
theorem W8 {l:List (Nat×Nat)}(hd:distinct (l.map (·.2))=true){r s n:Nat}(h1:look r l=some n)(h2:look s l=some n):r=s:=by
 induction l with
 |nil=>cases h1
 |cons p t ih=>
  obtain⟨k,m⟩:=p
  simp only[List.map_cons,distinct]at hd
  cases hm:E6 m (t.map (·.2))<;>simp only[hm,zB,zA]at hd
  ·simp only[look]at h1 h2
   have hno:∀q,look q t≠some m:=by
    intro q hq
    have:m∈t.map (·.2):=List.mem_map.mpr ⟨(q,m),look_in' hq,rfl⟩
    rw[D6.mpr this]at hm;cases hm
   cases hb1:Nat.beq k r<;>cases hb2:Nat.beq k s<;>simp only[hb1,hb2,zB,zA]at h1 h2
   ·exact ih hd h1 h2
   ·obtain rfl:=oI h2;exact absurd h1 (hno r)
   ·obtain rfl:=oI h1;exact absurd h2 (hno s)
   ·rw[←zN hb1,←zN hb2]
  ·cases hd
where
 look_in' {r v:Nat}:∀{rs:List (Nat×Nat)},look r rs=some v→(r,v)∈rs
  |[],h=>by cases h
  |(k,u)::t,h=>by
   simp only[look]at h
   cases hb:Nat.beq k r<;>simp only[hb,zB,zA]at h
   ·exact zF _ (look_in' h)
   ·obtain rfl:=oI h
    have e:=zN hb;subst e
    exact zM ..
theorem A97 {l:List (Nat×Nat)}(hd:distinct (l.map (·.1))=true){r k:Nat}(h:(r,k)∈l):look r l=some k:=H6 hd h
theorem U0 {ren:List (Nat×Nat)}:∀{l:List (Nat×Nat)} {n:Nat} {row':A6},look n (N8 ren σ l)=some row'→∃r row,(r,n)∈l∧σ.look r=some row∧row'=row.map (C4 ren)
 |[],n,row',h=>by cases h
 |(r,m)::t,n,row',h=>by
  simp only[N8]at h
  split at h
  ·rename_i row hr
   rw[R3]at h
   split at h
   ·rename_i e;subst e
    obtain rfl:=oI h
    exact⟨r,row,zM ..,hr,rfl⟩
   ·obtain⟨r',A2r,h1,h2,h3⟩:=U0 h
    exact⟨r',A2r,zF _ h1,h2,h3⟩
  ·obtain⟨r',A2r,h1,h2,h3⟩:=U0 h
   exact⟨r',A2r,zF _ h1,h2,h3⟩
theorem A0s {ren:List (Nat×Nat)}:∀{l:List (Nat×Nat)},distinct (l.map (·.2))=true→∀{r n:Nat} {row:A6},(r,n)∈l→σ.look r=some row→look n (N8 ren σ l)=some (row.map (C4 ren))
 |[],_,r,n,row,h,_=>by simp at h
 |(r0,m)::t,hd,r,n,row,h,hr=>by
  simp only[List.map_cons,distinct]at hd
  cases hm:E6 m (t.map (·.2))<;>simp only[hm,zB,zA]at hd
  ·have hno:∀q,(q,m)∉t:=by
    intro q hq
    have:m∈t.map (·.2):=List.mem_map.mpr ⟨(q,m),hq,rfl⟩
    rw[D6.mpr this]at hm;cases hm
   simp only[N8]
   rcases List.mem_cons.mp h with e|h'
   ·obtain⟨rfl,rfl⟩:=zQ e
    rw[hr]
    simp only[]
    rw[R3,if_pos rfl]
   ·have hne:n≠m:=by rintro rfl;exact hno r h'
    split
    ·rw[R3,if_neg hne];exact A0s hd h' hr
    ·exact A0s hd h' hr
  ·cases hd
theorem A57 (ren:List (Nat×Nat))(l:A0):(C4 ren l).refs=l.refs.map (A2q ren):=by
 cases l<;>simp only[C4,A0.refs,List.map_cons,List.map_nil]
 rename_i g caps
 induction caps with
 |nil=>rfl
 |cons c t ih=>
  cases c with
  |own r=>simp[A75,ih]
  |sh f x=>simp[A75,ih]
theorem Sim.ren (hs:Sim X σ a w G){ren:List (Nat×Nat)}(hd1:distinct (ren.map (·.1))=true)(hd2:distinct (ren.map (·.2))=true)(hnh:∀r row,σ.look r=some row→row.isHol=false)(hdom:∀r row,σ.look r=some row→∃n,look r ren=some n):
  ∃G',Sim X {slots:=σ.slots.map (AV.map (C4 ren)),rows:=N8 ren σ ren,pins:=σ.pins.map (C4 ren)} a w G':=by
 classical
 generalize hτ:({slots:=σ.slots.map (AV.map (C4 ren)),rows:=N8 ren σ ren,pins:=σ.pins.map (C4 ren)}:St)=τ
 have hof:∀n row',τ.look n=some row'→∃r row,look r ren=some n∧σ.look r=some row∧row'=row.map (C4 ren):=by
  intro n row' h
  rw[←hτ]at h
  obtain⟨r,row,h1,h2,h3⟩:=U0 h
  exact⟨r,row,A97 hd1 h1,h2,h3⟩
 have hto:∀r n row,look r ren=some n→σ.look r=some row→τ.look n=some (row.map (C4 ren)):=by
  intro r n row h1 h2
  rw[←hτ]
  exact A0s hd2 (W8.look_in' h1) h2
 have hN:∀r n,look r ren=some n→A2q ren r=n:=fun r n h=>by simp[A2q,h]
 let G':Gh:={
  rt:=fun q=>(G.rt q).bind fun r=>look r ren
  hv:=fun n=>if h:∃r,look r ren=some n then G.hv (Classical.choose h)else undef}
 have hhv:∀r n,look r ren=some n→G'.hv n=G.hv r:=by
  intro r n h
  have hex:∃r,look r ren=some n:=⟨r,h⟩
  show(if h:∃r,look r ren=some n then G.hv (Classical.choose h)else undef)=_
  rw[dif_pos hex,W8 hd2 (Classical.choose_spec hex) h]
 have hrt:∀q n,G'.rt q=some n→∃r,G.rt q=some r∧look r ren=some n:=fun q n h=>oB h
 have hrt2:∀q r n,G.rt q=some r→look r ren=some n→G'.rt q=some n:=fun q r n h1 h2=>by show(G.rt q).bind _=_;rw[h1];exact h2
 have hlive:∀r n,look r ren=some n→τ.live n→σ.live r:=by
  rintro r n h ⟨row',h1,h2⟩
  obtain⟨r',row,k1,k2,rfl⟩:=hof n row' h1
  obtain rfl:=W8 hd2 k1 h
  exact⟨row,k2,fun e=>h2 (by subst e;rfl)⟩
 have himm:∀q,Imm X σ w.heap G q→Imm X τ w.heap G' q:=by
  rintro q ⟨i1,i2,i3⟩
  refine⟨i1,i2,fun n hn hl=>?_⟩
  obtain⟨r,h1,h2⟩:=hrt q n hn
  exact i3 r h1 (hlive r n h2 hl)
 have hspt:∀(f:Kd) (x:f.T) (c:Nat) (v:Value),K1 X σ w.heap G f x c v→K1 X τ w.heap G' f x c v:=by
  rintro f x c v ⟨b,o,arr,e,fr,h1,h2,h3,h4⟩
  exact⟨b,o,arr,e,fr,h1,h2,himm _ h3,h4.mono himm⟩
 have hdat:∀r,(∃row,σ.look r=some row)→∀f xs,τ.dat (A2q ren r) f xs→σ.look r=some (.data f xs)∧G'.hv (A2q ren r)=G.hv r:=by
  rintro r ⟨row,hr⟩ f xs h
  obtain⟨n,hn⟩:=hdom r row hr
  rw[hN r n hn]at h⊢
  obtain⟨B02,h,har⟩:=h
  obtain⟨r',A2r,k1,k2,k3⟩:=hof n _ h
  obtain rfl:=W8 hd2 k1 hn
  refine⟨?_,hhv _ n hn⟩
  have hno:=hnh _ _ k2
  subst k3
  rw[A6.arr_map]at har
  cases A2r with
  |dead=>cases har
  |box=>cases har
  |hol=>cases hno
  |data g ys=>simp only[A6.arr,zO]at har;cases har;exact k2
 have hbx:∀r,(∃row,σ.look r=some row)→∀f ls,τ.look (A2q ren r)=some (.box f ls)→∃ls0,σ.look r=some (.box f ls0)∧G'.hv (A2q ren r)=G.hv r:=by
  rintro r ⟨row,hr⟩ f ls h
  obtain⟨n,hn⟩:=hdom r row hr
  rw[hN r n hn]at h⊢
  obtain⟨r',A2r,k1,k2,k3⟩:=hof n _ h
  obtain rfl:=W8 hd2 k1 hn
  cases A2r<;>simp only[A6.map]at k3<;>try (cases k3;done)
  rename_i f0 ls0
  simp only[A6.box.injEq]at k3
  obtain⟨rfl,_⟩:=k3
  exact⟨ls0,k2,hhv _ n hn⟩
 have hleaf:∀(l:A0) (v:Value),(∀r∈l.refs,∃row,σ.look r=some row)→A5 X σ w.heap G l v→A5 X τ w.heap G' (C4 ren l) v:=by
  intro l v hd hl
  cases l with
  |undef=>exact hl
  |nil=>exact hl
  |int k n=>exact hl
  |bool b=>exact hl
  |str s=>exact hl
  |sh f xs=>exact A2.mono himm hl
  |od f xs=>exact hl
  |ow r=>
   refine⟨hl.1,fun f xs hr=>?_⟩
   obtain⟨h1,h2⟩:=hdat r (hd r (by simp[A0.refs])) f xs hr
   rw[h2];exact hl.2 f xs (St.dat_of h1)
  |sub r off len=>
   refine⟨hl.1,fun f xs hr=>?_⟩
   obtain⟨h1,h2⟩:=hdat r (hd r (by simp[A0.refs])) f xs hr
   rw[h2];exact hl.2 f xs (St.dat_of h1)
  |pa r i c=>
   refine⟨hl.1,fun f xs hr=>?_⟩
   obtain⟨h1,h2⟩:=hdat r (hd r (by simp[A0.refs])) f xs hr
   rw[h2];exact hl.2 f xs (St.dat_of h1)
  |ptr r i c=>
   refine⟨hl.1,fun f xs hr=>?_,fun f ls hr=>?_⟩
   ·obtain⟨h1,h2⟩:=hdat r (hd r (by simp[A0.refs])) f xs hr
    rw[h2];exact hl.2.1 f xs (St.dat_of h1)
   ·obtain⟨ls0,h1,h2⟩:=hbx r (hd r (by simp[A0.refs])) f ls hr
    rw[h2];exact hl.2.2 f ls0 h1
  |spt f x c=>exact hspt f x c v hl
  |clo g caps=>
   obtain⟨vs,e,hv⟩:=hl
   refine⟨vs,e,?_⟩
   have hd':∀c∈caps,∀r,c= .own r→∃row,σ.look r=some row:=fun c hc r e=>hd r (by simp only[A0.refs,List.mem_filterMap];exact⟨c,hc,by rw[e]⟩)
   clear e hd
   induction hv with
   |nil=>exact .nil
   |@cons c v caps vs h1 _ ih=>
    refine .cons ?_ (ih fun c hc=>hd' c (zF _ hc))
    cases c with
    |own r=>
     refine⟨h1.1,fun f ls hr=>?_⟩
     obtain⟨ls0,h2,h3⟩:=hbx r (hd' _ (zM ..) r rfl) f ls hr
     rw[h3];exact h1.2 f ls0 h2
    |sh f x=>exact hspt f x 0 v h1
 have hrf:∀(ls:List A0),(∀r∈ls.flatMap A0.refs,∃row,σ.look r=some row)→∀q∈(ls.map (C4 ren)).flatMap A0.refs,∃row,τ.look q=some row:=by
  intro ls h q hq
  simp only[zB1,List.mem_map]at hq
  obtain⟨_,⟨l,hl,rfl⟩,hq⟩:=hq
  rw[A57]at hq
  obtain⟨r,hr,rfl⟩:=List.mem_map.mp hq
  obtain⟨row,hrow⟩:=h r (by simp only[zB1];exact⟨l,hl,hr⟩)
  obtain⟨n,hn⟩:=hdom r row hrow
  rw[hN r n hn]
  exact⟨_,hto r n row hn hrow⟩
 have htv:∀(x:TV) (v:Value),(∀l∈x.leaves,∀r∈l.refs,∃row,σ.look r=some row)→L1 X σ w.heap G x v→L1 X τ w.heap G' (x.map (C4 ren)) v:=by
  intro x v hd hx
  cases x with
  |one l=>
   rcases hx with rfl|hx
   ·exact .inl rfl
   ·exact .inr (hleaf l v (hd l (by simp[TV.leaves])) hx)
  |agg ls=>
   obtain⟨vs,e,h⟩:=hx
   refine⟨vs,e,?_⟩
   have:A7 (fun l v=>A5 X τ w.heap G' (C4 ren l) v) ls vs:=h.monoMem fun l hl v hv=>hleaf l v (hd l hl) hv
   exact A7.map (C4 ren) (fun _ _ h=>h) this
 have hsl:∀i,τ.slots.getD i A1=(σ.slots.getD i A1).map (C4 ren):=by
  intro i;rw[←hτ];exact getD_map rfl σ.slots i
 have hlen:τ.slots.length=σ.slots.length:=by rw[←hτ];simp
 have hpins:τ.pins=σ.pins.map (C4 ren):=by rw[←hτ]
 refine⟨G',hs.defs,by rw[hlen];exact hs.len,?_,?_,?_,?_,?_,hs.size,hs.frame,hs.os,hs.tape,hs.output,?_,?_,?_⟩
 ·intro i hi
  rw[hlen]at hi
  rw[hsl]
  have h0:=hs.slot i hi
  have hr0:=hs.refs i hi
  revert h0 hr0
  generalize σ.slots.getD i A1=av
  intro h0 hr0
  cases av with
  |v x=>exact htv x _ (fun l hl r hr=>hr0 r (by simp only[AV.refs,AV.leaves,zB1];exact⟨l,hl,hr⟩)) h0
  |tup xs=>
   obtain⟨vs,e,h⟩:=h0
   refine⟨vs,e,?_⟩
   have:A7 (fun x v=>L1 X τ w.heap G' (x.map (C4 ren)) v) xs vs:=h.monoMem fun x hx v hv=>htv x v (fun l hl r hr=>hr0 r (by simp only[AV.refs,AV.leaves,zB1];exact⟨l,⟨x,hx,hl⟩,hr⟩)) hv
   exact A7.map (TV.map (C4 ren)) (fun _ _ h=>h) this
 ·intro n row' hn
  obtain⟨r,row,k1,k2,rfl⟩:=hof n row' hn
  have h0:=hs.row r row k2
  cases row with
  |dead=>trivial
  |data f xs=>
   rcases h0 with⟨h,h'⟩|⟨b,cap,arr,e,fr,ow,e1,e2,e3,e4,e5,e6,e7⟩
   ·exact .inl ⟨h,by rw[hhv r n k1];exact h'⟩
   ·refine .inr ⟨b,cap,arr,e,fr,ow,by rw[hhv r n k1];exact e1,e2,hrt2 b r n e3 k1,e4,e5,e6,fun i x hx=>(e7 i x hx).mono fun q hq=>?_⟩
    unfold C0 at hq⊢
    split at hq
    ·rename_i hd;rw[if_pos hd];exact⟨hrt2 q r n hq.1 k1,hq.2⟩
    ·rename_i hd;rw[if_neg hd];exact himm q hq
  |hol=>cases hnh _ _ k2
  |box f ls=>
   obtain⟨b,arr,e,fr,e1,e3,e4,e6,e7,e8⟩:=h0
   refine⟨b,arr,e,fr,by rw[hhv r n k1];exact e1,hrt2 b r n e3 k1,e4,e6,by rw[List.length_map];exact e7,?_⟩
   have:A7 (fun l v=>A5 X τ w.heap G' (C4 ren l) v) ls arr.toList:=e8.monoMem fun l hl v hv=>hleaf l v (fun q hq=>hs.rrefs r f ls k2 q (by simp only[zB1];exact⟨l,hl,hq⟩)) hv
   exact A7.map (C4 ren) (fun _ _ h=>h) this
 ·rw[hpins]
  have:A7 (fun l v=>A5 X τ w.heap G' (C4 ren l) v) σ.pins X.pv:=hs.pin.monoMem fun l hl v hv=>hleaf l v (hs.prefs l hl) hv
  exact A7.map (C4 ren) (fun _ _ h=>h) this
 ·intro q n hn
  obtain⟨r,h1,_⟩:=hrt q n hn
  exact hs.lt q r h1
 ·intro q n hn hl hq
  obtain⟨r,h1,h2⟩:=hrt q n hn
  exact hs.ownA q r h1 (hlive r n h2 hl) hq
 ·intro i hi r hr
  rw[hlen]at hi
  rw[hsl,AV.refs,AV.leaves_map]at hr
  exact hrf _ (hs.refs i hi) r hr
 ·intro l hl r hr
  rw[hpins]at hl
  have:=hrf σ.pins (fun q hq=>by
   obtain⟨l0,hl0,hq⟩:=zB1.mp hq
   exact hs.prefs l0 hl0 q hq) r (zB1.mpr ⟨l,hl,hr⟩)
  exact this
 ·intro n f ls hn q hq
  obtain⟨r,row,k1,k2,k3⟩:=hof n _ hn
  cases row with
  |dead=>cases k3
  |data=>cases k3
  |hol=>cases k3
  |box f0 ls0=>
   simp only[A6.map,A6.box.injEq]at k3
   obtain⟨rfl,rfl⟩:=k3
   exact hrf ls0 (hs.rrefs r f ls0 k2) q hq
end
end Go.Proofs.Ytalmhjlcjcnidaa.Ev

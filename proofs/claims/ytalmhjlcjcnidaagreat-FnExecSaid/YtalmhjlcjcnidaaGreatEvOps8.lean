/- Stores, structs. -/
import Derived.Test.YtalmhjlcjcnidaaGreatEvOps7
set_option linter.all false
namespace Go.Proofs.YtalmhjlcjcnidaaGreat.Ev
open Go
section
variable {P:Program} {E:Env} {X:Ctx} {σ σ':St} {a:Act} {w w':World} {G:Gh}
theorem A9k {used own:List Nat}(hused:∀r∈used,∃f xs,σ.look r=some (.data f xs)){n:Nat}{row0 row:A6}(h0:σ.look n=some row0)(hl0:row0≠ .dead)
  (hsize:w'.heap.size=w.heap.size) {v:Value} {q:Nat} (hq:Imm X σ w.heap G q):Imm X ((σ.kill used).setRow n row) w'.heap (G.take w w' (n::used) own n v) q:=by
 obtain⟨h1,h2,h3⟩:=hq
 refine⟨by omega,h2,fun r hr hl=>?_⟩
 cases hg:G.rt q with
 |none=>simp[Gh.take,h1,hg]at hr
 |some r0=>
  rw[Gh.take_rt h1 hg]at hr
  split at hr
  ·rename_i hu
   rcases List.mem_cons.mp hu with rfl|hu
   ·exact h3 r0 hg ⟨_,h0,hl0⟩
   ·obtain⟨f,xs,h⟩:=hused r0 hu;exact h3 r0 hg ⟨_,h,by simp⟩
  ·rename_i hu
   simp only[List.mem_cons,not_or]at hu
   rw[if_neg hu.1]at hr
   obtain rfl:=oI hr
   obtain⟨row',k1,k2⟩:=hl
   rw[A3,if_neg hu.1,A9,if_neg hu.2]at k1
   exact h3 r0 hg ⟨row',k1,k2⟩
theorem Sim.reRow (hs:Sim X σ a w G){used own:List Nat}(hused:∀r∈used,∃f xs,σ.look r=some (.data f xs)){n:Nat}{row0 row:A6}(h0:σ.look n=some row0)(hl0:row0≠ .dead)(hnu:n∉used)
  (hc:P5 row0 row) (hpa:A06 σ n∨∃f ls,row= .box f ls) (hsize:w'.heap.size=w.heap.size) (hos:w'.os=w.os) (htape:w'.tape=w.tape) (hout:w'.output=w.output)
  (hfree:∀q,G.rt q≠some n→w'.heap[q]?=w.heap[q]?)
  (hrow:E7 X ((σ.kill used).setRow n row) w'.heap (G.take w w' (n::used) (n::own) n (G.hv n)) n row)
  (hbox:∀f ls,row= .box f ls→∀q∈ls.flatMap A0.refs,∃row',((σ.kill used).setRow n row).look q=some row'):
  Sim X ((σ.kill used).setRow n row) a w' (G.take w w' (n::used) (n::own) n (G.hv n)):=by
 have hlook:∀r,((σ.kill used).setRow n row).look r=if r=n then some row else if r∈used then some .dead else σ.look r:=by
  intro r;rw[A3,A9]
 refine hs.step rfl rfl (by omega) hos htape hout (fun q hq hno=>hfree q fun e=>hno n e ⟨_,h0,hl0⟩) ?_ ?_ ?_ ?_
 ·intro q r hr hl hq
  cases hg:G.rt q with
  |none=>simp[Gh.take,hq,hg]at hr
  |some r0=>
   rw[Gh.take_rt hq hg]at hr
   refine⟨r0,rfl,?_⟩
   split at hr
   ·rename_i hu
    rcases List.mem_cons.mp hu with rfl|hu
    ·exact⟨_,h0,hl0⟩
    ·obtain⟨f,xs,h⟩:=hused r0 hu;exact⟨_,h,by simp⟩
   ·rename_i hu
    simp only[List.mem_cons,not_or]at hu
    rw[if_neg hu.1]at hr
    obtain rfl:=oI hr
    obtain⟨row',h1,h2⟩:=hl
    rw[hlook,if_neg hu.1,if_neg hu.2]at h1
    exact⟨row',h1,h2⟩
 ·intro q r hr
  by_cases hq:q<w.heap.size
  ·omega
  ·by_cases hq':q<w'.heap.size
   ·exact hq'
   ·simp[Gh.take,hq,hq']at hr
 ·intro r row' hr
  rw[hlook]
  split
  ·exact⟨_,rfl⟩
  ·split
   ·exact⟨_,rfl⟩
   ·exact⟨_,hr⟩
 ·intro r row' hr
  rw[hlook]at hr
  by_cases h1:r=n
  ·subst h1
   rw[if_pos rfl]at hr
   obtain rfl:=oI hr
   refine .inr ⟨hrow,fun f ls e=>hbox f ls e,fun A8c h1=>?_⟩
   rw[h0]at h1;obtain rfl:=oI h1
   exact⟨hc,fun _=>⟨Gh.take_hv,hpa⟩⟩
  ·rw[if_neg h1]at hr
   by_cases h2:r∈used
   ·rw[if_pos h2]at hr
    obtain rfl:=oI hr
    exact .inr ⟨trivial,fun f ls e=>(by cases e),fun row0 h0=>⟨by cases row0<;>trivial,fun h=>absurd rfl h⟩⟩
   ·rw[if_neg h2]at hr
    refine .inl ⟨hr,by simp[Gh.take,h1],fun _ q hq=>?_⟩
    have hlt:=hs.lt q r hq
    refine⟨by rw[Gh.take_rt hlt hq,if_neg (by simp[h1,h2]),if_neg h1],hfree q fun e=>?_⟩
    rw[hq]at e;exact h1 (oI e)
theorem B22 {used own:List Nat}(hused:∀r∈used,∃f xs,σ.look r=some (.data f xs)){n:Nat}{row0 row:A6}(h0:σ.look n=some row0)(hl0:row0≠ .dead)(hnu:n∉used)
  (hc:P5 row0 row) (hsize:w'.heap.size=w.heap.size) (hfree:∀q,G.rt q≠some n→w'.heap[q]?=w.heap[q]?):
  Fr X σ w.heap G ((σ.kill used).setRow n row) w'.heap (G.take w w' (n::used) own n (G.hv n)):=by
 have hhv:∀r,(G.take w w' (n::used) own n (G.hv n)).hv r=G.hv r:=by
  intro r;simp only[Gh.take];split
  ·rename_i h;rw[h]
  ·rfl
 refine⟨fun q hq=>⟨A9k hused h0 hl0 hsize hq,hfree q fun e=>hq.2.2 n e ⟨_,h0,hl0⟩⟩,fun r f ys _ hr=>?_,fun r f ls _ hr=>?_⟩
 ·obtain⟨row',hr,har⟩:=hr
  rw[A3]at hr
  split at hr
  ·rename_i e;subst e
   obtain rfl:=oI hr
   obtain⟨xs,k1,k2⟩:=hc.arr har
   exact⟨xs,⟨_,h0,k1⟩,k2,hhv _⟩
  ·rw[A9]at hr
   split at hr
   ·obtain rfl:=oI hr;cases har
   ·exact⟨ys,⟨_,hr,har⟩,rfl,hhv _⟩
 ·rw[A3]at hr
  split at hr
  ·rename_i e;subst e
   obtain rfl:=oI hr
   obtain⟨g,ms,rfl⟩:=hc.box rfl
   exact⟨g,ms,h0,hhv _⟩
  ·rw[A9]at hr
   split at hr
   ·cases hr
   ·exact⟨f,ls,hr,hhv _⟩
theorem look_map (g:A0→A0)(r:Nat):∀rows:List (Nat×A6),look r (rows.map fun q=>(q.1,q.2.map g))=(look r rows).map (A6.map g)
 |[]=>rfl
 |(k,u)::t=>by
  simp only[List.map_cons,look]
  cases Nat.beq k r<;>simp only[zB,zA]
  ·exact look_map g r t
  ·rfl
theorem A6.arr_map (g:A0→A0)(row:A6):(row.map g).arr=row.arr:=by cases row<;>rfl
theorem St.look_map (g:A0→A0)(r:Nat):(σ.map g).look r=(σ.look r).map (A6.map g):=Ev.look_map g r σ.rows
theorem TV.leaves_map (g:A0→A0)(x:TV):(x.map g).leaves=x.leaves.map g:=by cases x<;>rfl
theorem AV.leaves_map (g:A0→A0)(x:AV):(x.map g).leaves=x.leaves.map g:=by
 cases x with
 |v x=>exact TV.leaves_map g x
 |tup vs=>
  simp only[AV.map,AV.leaves]
  induction vs with
  |nil=>rfl
  |cons x t ih=>simp[TV.leaves_map,ih]
theorem getD_map {g:A0→A0}(hu:g .undef= .undef)(l:List AV)(i:Nat):(l.map (AV.map g)).getD i A1=(l.getD i A1).map g:=by
 simp only[List.getD,List.getElem?_map]
 cases l[i]? with
 |none=>simp[A1,AV.map,TV.map,hu]
 |some x=>rfl
theorem Sim.mapK (hs:Sim X σ a w G){g:A0→A0}{ks:List Nat}(hu:g .undef= .undef)(hrefs:∀l,∀r∈(g l).refs,r∈l.refs)
  (hg:∀l v,A5 X σ w.heap G l v→A5 X ((σ.map g).kill ks) w.heap G (g l) v):Sim X ((σ.map g).kill ks) a w G:=by
 have hlook:∀r,((σ.map g).kill ks).look r=if r∈ks then some .dead else(σ.look r).map (A6.map g):=by
  intro r;rw[A9,St.look_map]
 have hlive:∀r,((σ.map g).kill ks).live r→σ.live r:=by
  rintro r ⟨row,h1,h2⟩
  rw[hlook]at h1
  split at h1
  ·obtain rfl:=oI h1;exact absurd rfl h2
  ·obtain⟨row0,h3,rfl⟩:=oM h1
   exact⟨row0,h3,fun e=>h2 (by subst e;rfl)⟩
 have himm:∀q,Imm X σ w.heap G q→Imm X ((σ.map g).kill ks) w.heap G q:=fun q hq=>⟨hq.1,hq.2.1,fun r hr hl=>hq.2.2 r hr (hlive r hl)⟩
 have hdom:∀r row,σ.look r=some row→∃row',((σ.map g).kill ks).look r=some row':=by
  intro r row h
  rw[hlook]
  split
  ·exact⟨_,rfl⟩
  ·rw[h];exact⟨_,rfl⟩
 have htv:∀(x:TV) (v:Value),L1 X σ w.heap G x v→L1 X ((σ.map g).kill ks) w.heap G (x.map g) v:=by
  intro x v hx
  cases x with
  |one l=>
   rcases hx with rfl|hx
   ·exact .inl hu
   ·exact .inr (hg l v hx)
  |agg ls=>obtain⟨vs,e,h⟩:=hx;exact⟨vs,e,h.map g hg⟩
 have hall:∀(ls:List A0),(∀r∈ls.flatMap A0.refs,∃row,σ.look r=some row)→∀r∈(ls.map g).flatMap A0.refs,∃row,((σ.map g).kill ks).look r=some row:=by
  intro ls h r hr
  simp only[zB1,List.mem_map]at hr
  obtain⟨_,⟨l,hl,rfl⟩,hr⟩:=hr
  obtain⟨row,hrow⟩:=h r (by simp only[zB1];exact⟨l,hl,hrefs l r hr⟩)
  exact hdom r row hrow
 have hsl:∀i,((σ.map g).kill ks).slots.getD i A1=(σ.slots.getD i A1).map g:=fun i=>getD_map hu σ.slots i
 have hlen:((σ.map g).kill ks).slots.length=σ.slots.length:=by simp[St.kill,St.map]
 refine⟨hs.defs,by rw[hlen];exact hs.len,?_,?_,?_,hs.lt,?_,hs.size,hs.frame,hs.os,hs.tape,hs.output,?_,?_,?_⟩
 ·intro i hi
  rw[hlen]at hi
  rw[hsl]
  have:=hs.slot i hi
  revert this
  generalize σ.slots.getD i A1=av
  intro this
  cases av with
  |v x=>exact htv x _ this
  |tup xs=>obtain⟨vs,e,h⟩:=this;exact⟨vs,e,h.map _ htv⟩
 ·intro r row hr
  rw[hlook]at hr
  split at hr
  ·obtain rfl:=oI hr;trivial
  ·obtain⟨row0,h3,rfl⟩:=oM hr
   have h0:=hs.row r row0 h3
   cases row0 with
   |dead=>trivial
   |data f xs=>
    rcases h0 with h|⟨b,cap,arr,e,fr,ow,e1,e2,e3,e4,e5,e6,e7⟩
    ·exact .inl h
    ·refine .inr ⟨b,cap,arr,e,fr,ow,e1,e2,e3,e4,e5,e6,fun i x hx=>(e7 i x hx).mono fun q hq=>?_⟩
     unfold C0 at hq⊢
     split at hq
     ·rename_i hd;rw[if_pos hd];exact hq
     ·rename_i hd;rw[if_neg hd];exact himm q hq
   |hol f xs i c n=>
    obtain⟨g1,g2,g3,⟨nrow,g4⟩,b,cap,arr,e,fr,ow,e1,e2,e3,e4,e5,e6,e7,e8⟩:=h0
    have hm1:∀j q,C0 X σ w.heap G r b j ow q→C0 X ((σ.map g).kill ks) w.heap G r b j ow q:=by
     intro j q hq
     unfold C0 at hq⊢
     rw[if_pos g1]at hq⊢
     exact hq
    refine⟨g1,g2,g3,hdom n nrow g4,b,cap,arr,e,fr,ow,e1,e2,e3,e4,e5,e6,fun j x hx=>⟨fun hj=>((e7 j x hx).1 hj).mono (hm1 j),fun hj=>((e7 j x hx).2 hj).mono (hm1 j)⟩,fun g' ys hn=>e8 g' ys ?_⟩
    obtain⟨row',k1,k2⟩:=hn
    rw[hlook]at k1
    split at k1
    ·obtain rfl:=oI k1;cases k2
    ·obtain⟨A8c,k3,rfl⟩:=oM k1
     exact⟨A8c,k3,by rw[←k2,A6.arr_map]⟩
   |box f ls=>
    obtain⟨b,arr,e,fr,e1,e3,e4,e6,e7,e8⟩:=h0
    exact⟨b,arr,e,fr,e1,e3,e4,e6,by rw[List.length_map];exact e7,e8.map g hg⟩
 ·exact hs.pin.map g hg
 ·exact fun q r h1 h2 h3=>hs.ownA q r h1 (hlive r h2) h3
 ·intro i hi r hr
  rw[hlen]at hi
  rw[hsl,AV.refs,AV.leaves_map]at hr
  exact hall _ (hs.refs i hi) r hr
 ·intro l hl r hr
  obtain⟨l0,hl0,rfl⟩:=List.mem_map.mp hl
  obtain⟨row,hrow⟩:=hs.prefs l0 hl0 r (hrefs l0 r hr)
  exact hdom r row hrow
 ·intro r f ls hr q hq
  rw[hlook]at hr
  split at hr
  ·cases hr
  ·obtain⟨row0,h3,e⟩:=oM hr
   cases row0 with
   |dead=>cases e
   |data=>cases e
   |hol=>cases e
   |box f0 ls0=>
    simp only[A6.map,A6.box.injEq]at e
    obtain⟨rfl,rfl⟩:=e
    exact hall ls0 (hs.rrefs r f0 ls0 h3) q hq
theorem A5z {g:A0→A0}{ks:List Nat}{h:Array Obj}:Fr X σ h G ((σ.map g).kill ks) h G:=by
 have hlook:∀r,((σ.map g).kill ks).look r=if r∈ks then some .dead else(σ.look r).map (A6.map g):=by
  intro r;rw[A9,St.look_map]
 refine⟨fun q hq=>⟨⟨hq.1,hq.2.1,fun r hr hl=>hq.2.2 r hr ?_⟩,rfl⟩,fun r f ys _ hr=>?_,fun r f ls _ hr=>?_⟩
 ·obtain⟨row,h1,h2⟩:=hl
  rw[hlook]at h1
  split at h1
  ·obtain rfl:=oI h1;exact absurd rfl h2
  ·obtain⟨row0,h3,rfl⟩:=oM h1
   exact⟨row0,h3,fun e=>h2 (by subst e;rfl)⟩
 ·obtain⟨row',hr,har⟩:=hr
  rw[hlook]at hr
  split at hr
  ·obtain rfl:=oI hr;cases har
  ·obtain⟨row0,h3,rfl⟩:=oM hr
   exact⟨ys,⟨row0,h3,by rw[←har,A6.arr_map]⟩,rfl,rfl⟩
 ·rw[hlook]at hr
  split at hr
  ·cases hr
  ·obtain⟨row0,h3,e⟩:=oM hr
   cases row0 with
   |dead=>cases e
   |data=>cases e
   |hol=>cases e
   |box f0 ls0=>exact⟨f0,ls0,h3,rfl⟩
theorem A5.mapK {g:A0→A0}{ks:List Nat}{h:Array Obj}{l:A0}{v:Value}(hl:A5 X σ h G l v):A5 X ((σ.map g).kill ks) h G l v:=by
 have F:Fr X σ h G ((σ.map g).kill ks) h G:=A5z
 have hlook:∀r,((σ.map g).kill ks).look r=if r∈ks then some .dead else(σ.look r).map (A6.map g):=by
  intro r;rw[A9,St.look_map]
 have hd:∀r f xs,((σ.map g).kill ks).dat r f xs→σ.dat r f xs:=by
  intro r f xs hr
  obtain⟨ys,k1,k2,_⟩:∃ys,σ.dat r f ys∧ys=xs∧True:=by
   obtain⟨row',hr,har⟩:=hr
   rw[hlook]at hr
   split at hr
   ·obtain rfl:=oI hr;cases har
   ·obtain⟨row0,h3,rfl⟩:=oM hr
    exact⟨xs,⟨row0,h3,by rw[←har,A6.arr_map]⟩,rfl,trivial⟩
  rw[←k2];exact k1
 have hb:∀r f ls,((σ.map g).kill ks).look r=some (.box f ls)→∃f' ls',σ.look r=some (.box f' ls'):=by
  intro r f ls hr
  rw[hlook]at hr
  split at hr
  ·cases hr
  ·obtain⟨row0,h3,e⟩:=oM hr
   cases row0 with
   |dead=>cases e
   |data=>cases e
   |hol=>cases e
   |box f0 ls0=>exact⟨f0,ls0,h3⟩
 cases l with
 |undef=>exact hl
 |nil=>exact hl
 |int k n=>exact hl
 |bool b=>exact hl
 |str s=>exact hl
 |sh f xs=>exact(A2.mono (fun q hq=>(F.imm q hq).1) hl)
 |od f xs=>exact hl
 |ow r=>exact⟨hl.1,fun f xs hr=>hl.2 f xs (hd _ _ _ hr)⟩
 |sub r off len=>exact⟨hl.1,fun f xs hr=>hl.2 f xs (hd _ _ _ hr)⟩
 |pa r i c=>exact⟨hl.1,fun f xs hr=>hl.2 f xs (hd _ _ _ hr)⟩
 |ptr r i c=>exact⟨hl.1,fun f xs hr=>hl.2.1 f xs (hd _ _ _ hr),fun f ls hr=>by obtain⟨f',ls',h'⟩:=hb _ _ _ hr;exact hl.2.2 f' ls' h'⟩
 |spt f x c=>exact K1.pres F hl
 |clo f caps=>
  obtain⟨vs,e,hv⟩:=hl
  refine⟨vs,e,hv.mono fun c v hcv=>?_⟩
  cases c with
  |own r=>exact⟨hcv.1,fun f ls hr=>by obtain⟨f',ls',h'⟩:=hb _ _ _ hr;exact hcv.2 f' ls' h'⟩
  |sh f x=>exact K1.pres F hcv
theorem St.map_id:σ.map id=σ:=by
 have h1:∀x:TV,x.map id=x:=fun x=>by cases x<;>simp[TV.map]
 have h2:∀x:AV,x.map id=x:=fun x=>by
  cases x with
  |v x=>simp[AV.map,h1]
  |tup xs=>simp only[AV.map];congr 1;exact(List.map_congr_left fun x _=>h1 x).trans (List.map_id _)
 have h3:∀x:A6,x.map id=x:=fun x=>by cases x<;>simp[A6.map]
 obtain⟨ss,rows,pins⟩:=σ
 simp only[St.map]
 congr 1
 ·exact(List.map_congr_left fun x _=>h2 x).trans (List.map_id _)
 ·exact(List.map_congr_left fun x _=>by rw[h3];rfl).trans (List.map_id _)
 ·simp
theorem Sim.kill (hs:Sim X σ a w G)(ks:List Nat):Sim X (σ.kill ks) a w G:=by
 have:=hs.mapK (g:=id) (ks:=ks) rfl (fun _ _ h=>h) fun l v hl=>A5.mapK hl
 rwa[St.map_id]at this
theorem A5l (r:Nat)(l:A0):∀q∈(dropPa r l).refs,q∈l.refs:=by
 cases l<;>simp only[dropPa]<;>try (intro q h;exact h)
 rename_i q i c
 cases Nat.beq q r<;>simp[A0.refs]
theorem Sim.dropPa (hs:Sim X σ a w G)(r:Nat):Sim X (σ.map (dropPa r)) a w G:=by
 refine hs.mapK (g:=Ev.dropPa r) (ks:=[]) rfl (A5l r) fun l v hl=>?_
 have hl':A5 X ((σ.map (Ev.dropPa r)).kill []) w.heap G l v:=A5.mapK hl
 cases l<;>simp only[Ev.dropPa]<;>try exact hl'
 rename_i q i c
 cases Nat.beq q r
 ·exact hl'
 ·exact hl'.1
theorem M2 (r:Nat):A06 (σ.map (dropPa r)) r:=by
 have key:∀l,(Ev.dropPa r l).noPa r:=by
  intro l
  cases l<;>simp only[Ev.dropPa,A0.noPa]
  rename_i q i c
  cases hb:Nat.beq q r<;>simp only[zB,zA]
  rintro rfl;simp at hb
 refine⟨fun i l hl=>?_,fun q f ls hq l hl=>?_,fun l hl=>?_⟩
 ·have:(σ.map (Ev.dropPa r)).slots.getD i A1=(σ.slots.getD i A1).map (Ev.dropPa r):=getD_map rfl σ.slots i
  rw[this,AV.leaves_map]at hl
  obtain⟨l0,_,rfl⟩:=List.mem_map.mp hl
  exact key l0
 ·rw[St.look_map]at hq
  obtain⟨row0,h3,e⟩:=oM hq
  cases row0 with
  |dead=>cases e
  |data=>cases e
  |hol=>cases e
  |box f0 ls0=>
   simp only[A6.map,A6.box.injEq]at e
   obtain⟨rfl,rfl⟩:=e
   obtain⟨l0,_,rfl⟩:=List.mem_map.mp hl
   exact key l0
 ·obtain⟨l0,_,rfl⟩:=List.mem_map.mp hl
  exact key l0
theorem take_len {α:Type}{l:List α}{n:Nat}(h:l.length=n):l.take n=l:=by rw[←h];exact List.take_length
theorem A5m {α:Type}{l:List α}{n:Nat}(h:l.length=n):l.drop n=[]:=by rw[←h];exact List.drop_length
theorem A0b (d:Bool)(rows:List (Nat×A6))(f:Kd)(x:f.T)(c:Nat):C7 d rows f x c []=some (x,[],[]):=by
 cases f<;>simp[C7]
theorem A46 (hs:Sim X σ a w G):∀{f:Kd} {x:f.T} {c:Nat} {ls:List A0} {y:f.T} {used:List Nat} {rest:List A0} {ws vs:List Value} {S:Nat→Prop},C7 X.deep σ.rows f x c ls=some (y,used,rest)→
  A7 (A5 X σ w.heap G) ls ws→distinct used=true→A2 X.deep w.heap f x vs S→(∀q,S q→X.deep=true→∀r∈used,G.rt q≠some r)→
  ∃w1 w2,ws=w1++w2∧A7 (A5 X σ w.heap G) rest w2∧(w1=[]∨c+w1.length≤f.size)∧(rest=[]∨c+w1.length=f.size)∧
   A2 X.deep w.heap f y (vs.take c++w1++vs.drop (c+w1.length)) (fun q=>S q∨U6 X σ w.heap G used q)∧
   (∀r∈used,∃g ys,σ.look r=some (.data g ys))∧(∀r∈used,r∈ls.flatMap A0.refs)∧∀l∈rest,l∈ls:=by
 have hnil:∀{f:Kd} {x:f.T} {c:Nat} {y:f.T} {used:List Nat} {rest:List A0} {ws vs:List Value} {S:Nat→Prop},C7 X.deep σ.rows f x c []=some (y,used,rest)→
  A7 (A5 X σ w.heap G) [] ws→A2 X.deep w.heap f x vs S→
  ∃w1 w2,ws=w1++w2∧A7 (A5 X σ w.heap G) rest w2∧(w1=[]∨c+w1.length≤f.size)∧(rest=[]∨c+w1.length=f.size)∧
   A2 X.deep w.heap f y (vs.take c++w1++vs.drop (c+w1.length)) (fun q=>S q∨U6 X σ w.heap G used q)∧
   (∀r∈used,∃g ys,σ.look r=some (.data g ys))∧(∀r∈used,r∈([]:List A0).flatMap A0.refs)∧∀l∈rest,l∈([]:List A0):=by
  intro f x c y used rest ws vs S h hl hc
  rw[A0b]at h
  obtain⟨rfl,hz⟩:=zQ (oI h)
  obtain⟨rfl,rfl⟩:=zQ hz
  cases hl
  exact⟨[],[],rfl,.nil,.inl rfl,.inl rfl,by simp only[zH1,zX,Nat.add_zero,List.take_append_drop];exact hc.mono fun q hq=> .inl hq,by simp,by simp,by simp⟩
 have hflat:∀{f:Kd} {x:f.T} {c:Nat} {ls:List A0} {y:f.T} {used:List Nat} {rest:List A0} {ws vs:List Value} {S:Nat→Prop},c=0→A4 X.deep σ.rows f ls=some (y,used,rest)→
  A7 (A5 X σ w.heap G) ls ws→distinct used=true→A2 X.deep w.heap f x vs S→
  ∃w1 w2,ws=w1++w2∧A7 (A5 X σ w.heap G) rest w2∧(w1=[]∨c+w1.length≤f.size)∧(rest=[]∨c+w1.length=f.size)∧
   A2 X.deep w.heap f y (vs.take c++w1++vs.drop (c+w1.length)) (fun q=>S q∨U6 X σ w.heap G used q)∧
   (∀r∈used,∃g ys,σ.look r=some (.data g ys))∧(∀r∈used,r∈ls.flatMap A0.refs)∧∀l∈rest,l∈ls:=by
  intro f x c ls y used rest ws vs S h0 h hl hd hc
  subst h0
  obtain⟨v1,v2,rfl,k1,k2,k3,k4,k5⟩:=T9 hs h hl hd
  have hlen:=k2.len
  refine⟨v1,v2,rfl,k1,.inr (by omega),.inr (by omega),?_,k3,k4,k5⟩
  rw[zS,A5m (by rw[hc.len,hlen]),zH1,List.take_zero,List.nil_append]
  exact k2.mono fun q hq=> .inr hq
 intro f
 induction f with
 |int k=>
  intro x c ls y used rest ws vs S h hl hd hc hS
  cases ls with
  |nil=>exact hnil h hl hc
  |cons l t=>
   cases c with
   |zero=>exact hflat rfl (by simpa[C7]using h) hl hd hc
   |succ c=>simp[C7]at h
 |bool=>
  intro x c ls y used rest ws vs S h hl hd hc hS
  cases ls with
  |nil=>exact hnil h hl hc
  |cons l t=>
   cases c with
   |zero=>exact hflat rfl (by simpa[C7]using h) hl hd hc
   |succ c=>simp[C7]at h
 |str=>
  intro x c ls y used rest ws vs S h hl hd hc hS
  cases ls with
  |nil=>exact hnil h hl hc
  |cons l t=>
   cases c with
   |zero=>exact hflat rfl (by simpa[C7]using h) hl hd hc
   |succ c=>simp[C7]at h
 |sl f _=>
  intro x c ls y used rest ws vs S h hl hd hc hS
  cases ls with
  |nil=>exact hnil h hl hc
  |cons l t=>
   cases c with
   |zero=>exact hflat rfl (by simpa[C7]using h) hl hd hc
   |succ c=>simp[C7]at h
 |pair a b iha ihb=>
  intro x c ls y used rest ws vs S h hl hd hc hS
  cases ls with
  |nil=>exact hnil h hl hc
  |cons l t=>
   simp only[A2]at hc
   obtain⟨v1,v2,side,rfl,c1,c2⟩:=hc
   have hl1:=c1.len
   have hl2:=c2.len
   simp only[C7]at h
   cases hcb:Nat.blt c a.size<;>simp only[hcb,zB,zA]at h
   · -- behind the first
    have hge:a.size≤c:=by
     rcases zE1 c a.size with h'|h'
     ·have:=Nat.blt_eq.mpr h';rw[hcb]at this;cases this
     ·exact h'
    obtain⟨⟨yb,ub,rb⟩,hb,h⟩:=oB h
    obtain⟨rfl,hz⟩:=zQ (oI h)
    obtain⟨rfl,rfl⟩:=zQ hz
    dsimp only at hd hS⊢
    obtain⟨w1,w2,rfl,k1,k2,k3,k4,k5,k6,k7⟩:=ihb hb hl hd c2 fun q hq hdp r hr=>hS q hq.1 hdp r hr
    refine⟨w1,w2,rfl,k1,k2.imp id (by simp only[Kd.size];omega),k3.imp id (by simp only[Kd.size];omega),?_,k5,k6,k7⟩
    simp only[A2]
    refine⟨v1,v2.take (c - a.size)++w1++v2.drop (c - a.size+w1.length),fun q=>match G.rt q with|some r=>if r∈ub then false else side q|none=>side q,?_,c1.mono fun q hq=>⟨.inl hq.1,fun hdp=>?_⟩,k4.mono fun q hq=>?_⟩
    ·rw[List.take_append,List.take_of_length_le (by omega),List.drop_append,List.drop_eq_nil_of_le (by omega),hl1]
     simp only[List.nil_append,List.append_assoc]
     congr 4;omega
    ·have:=hS q hq.1 hdp
     dsimp only
     cases hg:G.rt q with
     |none=>exact hq.2 hdp
     |some r=>
      simp only
      rw[if_neg (fun hr=>this r hr hg)];exact hq.2 hdp
    ·rcases hq with hq|hq
     ·refine⟨.inl hq.1,fun hdp=>?_⟩
      dsimp only
      cases hg:G.rt q with
      |none=>exact hq.2 hdp
      |some r=>
       simp only
       split
       ·rfl
       ·exact hq.2 hdp
     ·refine⟨.inr hq,fun hdp=>?_⟩
      rcases hq with⟨r,hr,e⟩|⟨hf,_⟩
      ·simp[e,hr]
      ·rw[hdp]at hf;cases hf
   ·have hlt:c<a.size:=by simpa using hcb
    obtain⟨⟨ya,ua,ra⟩,ha,h⟩:=oB h
    obtain⟨⟨yb,ub,rb⟩,hb,h⟩:=oB h
    obtain⟨rfl,hz⟩:=zQ (oI h)
    obtain⟨rfl,rfl⟩:=zQ hz
    dsimp only at hb hd hS⊢
    obtain⟨d1,d2,d3⟩:=H0 hd
    obtain⟨w1,w2,rfl,k1,k2,k3,k4,k5,k6,k7⟩:=iha ha hl d1 c1 fun q hq hdp r hr=>hS q hq.1 hdp r (zZ _ hr)
    obtain⟨u1,u2,rfl,m1,m2,m3,m4,m5,m6,m7⟩:=ihb hb k1 d2 c2 fun q hq hdp r hr=>hS q hq.1 hdp r (zA1 _ hr)
    have hw1:c+w1.length≤a.size:=by
      rcases k2 with rfl|h
      ·simp;omega
      ·exact h
    have hcase:u1=[]∧rb=[]∨c+w1.length=a.size:=by
     rcases k3 with rfl|h
     ·rw[A0b]at hb
      obtain⟨_,hz⟩:=zQ (oI hb)
      obtain⟨_,rfl⟩:=zQ hz
      cases k1':u1 with
      |nil=>exact .inl ⟨rfl,rfl⟩
      |cons z zs=>rw[k1']at k1;have:=k1.length;simp at this
     ·exact .inr h
    refine⟨w1++u1,u2,by simp,m1,?_,?_,?_,?_,?_,fun l hl=>k7 l (m7 l hl)⟩
    ·simp only[Kd.size,List.length_append]
     rcases hcase with⟨rfl,_⟩|h
     ·right;simp;omega
     ·rcases m2 with rfl|m2
      ·right;simp;omega
      ·right;omega
    ·simp only[Kd.size,List.length_append]
     rcases hcase with⟨_,h⟩|h
     ·exact .inl h
     ·exact m3.imp id (by omega)
    ·simp only[A2]
     refine⟨v1.take c++w1++v1.drop (c+w1.length),v2.take 0++u1++v2.drop (0+u1.length),fun q=>match G.rt q with|some r=>if r∈ua then true else if r∈ub then false else side q|none=>side q,?_,k4.mono fun q hq=>?_,m4.mono fun q hq=>?_⟩
     ·rw[List.take_append,show c - v1.length=0 by omega,List.take_zero,zH1,List.nil_append,zS]
      rcases hcase with⟨rfl,_⟩|h
      ·simp only[zH1,List.nil_append,zX,List.drop_zero,List.append_assoc]
       rw[List.drop_append_of_le_length (by omega)]
      ·rw[A5m (l:=v1) (n:=c+w1.length) (by omega),zH1,List.drop_append,List.drop_eq_nil_of_le (as:=v1) (by simp;omega),List.nil_append]
       simp only[List.append_assoc,List.length_append]
       congr 4;omega
     ·rcases hq with hq|hq
      ·refine⟨.inl hq.1,fun hdp=>?_⟩
       have:=hS q hq.1 hdp
       dsimp only
       cases hg:G.rt q with
       |none=>exact hq.2 hdp
       |some r=>
        simp only
        rw[if_neg (fun hr=>this r (zZ _ hr) hg),if_neg (fun hr=>this r (zA1 _ hr) hg)];exact hq.2 hdp
      ·refine⟨.inr (hq.mono fun r hr=>zZ _ hr),fun hdp=>?_⟩
       rcases hq with⟨r,hr,e⟩|⟨hf,_⟩
       ·simp[e,hr]
       ·rw[hdp]at hf;cases hf
     ·rcases hq with hq|hq
      ·refine⟨.inl hq.1,fun hdp=>?_⟩
       have:=hS q hq.1 hdp
       dsimp only
       cases hg:G.rt q with
       |none=>exact hq.2 hdp
       |some r=>
        simp only
        rw[if_neg (fun hr=>this r (zZ _ hr) hg),if_neg (fun hr=>this r (zA1 _ hr) hg)];exact hq.2 hdp
      ·refine⟨.inr (hq.mono fun r hr=>zA1 _ hr),fun hdp=>?_⟩
       rcases hq with⟨r,hr,e⟩|⟨hf,_⟩
       ·simp only[e,if_neg (fun h=>d3 r h hr),if_pos hr]
       ·rw[hdp]at hf;cases hf
    ·intro r hr
     rcases zY.mp hr with hr|hr
     ·exact k5 r hr
     ·exact m5 r hr
    ·intro r hr
     rcases zY.mp hr with hr|hr
     ·exact k6 r hr
     ·have:=m6 r hr
      simp only[zB1]at this⊢
      obtain⟨l,hl,hr⟩:=this
      exact⟨l,k7 l hl,hr⟩
end
end Go.Proofs.YtalmhjlcjcnidaaGreat.Ev

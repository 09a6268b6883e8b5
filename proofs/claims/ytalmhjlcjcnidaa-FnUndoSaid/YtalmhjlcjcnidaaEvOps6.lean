/- Append, make, literals, variables: the operations. -/
import Derived.Test.YtalmhjlcjcnidaaEvTake0
import Derived.IntWalk
set_option linter.all false
namespace Go.Proofs.Ytalmhjlcjcnidaa.Ev
open Go
section
variable {P:Program} {E:Env} {X:Ctx} {σ σ':St} {a:Act} {w w':World} {G:Gh}
theorem A64 (hE:B4 P E)(hs:Sim X σ a w G){o:Oper}{c:Call}{x y:Operand}{t u:TypeId}{ts:List TypeId}(ho:o.op= .call c)(hc:c.callee= .builtin .append)
  (hargs:c.args.toList=[x,y]) (hts:c.argTypes.toList=t::u::ts) (h:T3 E X.deep o t u x y σ=some (true,σ')):B1 P X o σ' a w:=by
 unfold T3 at h
 cases hu:E.isSl u||E.isStr u<;>simp only[hu,zB,zA]at h
 ·cases h
 have hn:(∃e',P.underlying u=some (.slice e'))∨P.underlying u=some .string:=by
  rcases Bool.or_eq_true_iff.mp hu with h|h
  ·exact .inl (hE.isSl h)
  ·exact .inr (hE.isStr h)
 split at h
 ·rename_i e d s hel hx hy
  obtain⟨f,eb⟩:=e
  obtain⟨et,hut,he⟩:=hE.el hel
  cases d with
  |nil=>
   obtain⟨⟨ys,used⟩,hsrc,h0⟩:=oB h
   dsimp only at hsrc h0
   have hsu:s≠ .undef:=by rintro rfl;simp[N4,H3]at hsrc
   obtain⟨k1,k2,k3⟩:=A3t (P:=P) hs hsrc (hs.ev1 hy hsu).1
   have hv:=(hs.ev1 hx (by simp)).1
   simp only[A5]at hv
   cases hd:distinct used<;>simp only[hd,zB,zA]at h0
   ·cases h0
   obtain⟨τ,h1,h2⟩:=oB h0
   obtain⟨hr,rfl⟩:=zQ (oI h2)
   exact V3 hs (xs:=[]) (dst:=[]) hut he hn ho hc (A4r hargs) (V4 hts) (A0d hts) hv (.inl ⟨rfl,rfl,rfl⟩) (by simp) k1 k2 k3 (by simp) (by simpa using hr) (by simpa using h1)
  |ow r=>
   obtain⟨⟨ys,used⟩,hsrc,h0⟩:=oB h
   dsimp only at hsrc h0
   have hsu:s≠ .undef:=by rintro rfl;simp[N4,H3]at hsrc
   obtain⟨k1,k2,k3⟩:=A3t (P:=P) hs hsrc (hs.ev1 hy hsu).1
   split at h0
   ·rename_i g xs hr
    split at h0
    ·rename_i e;subst e
     cases hd:distinct (r::used)<;>simp only[hd,zB,zA]at h0
     ·cases h0
     obtain⟨τ,h1,h2⟩:=oB h0
     obtain⟨hro,rfl⟩:=zQ (oI h2)
     have hv:=(hs.ev1 hx (by simp)).1.2 g xs (St.dat_of hr)
     obtain⟨p,cap,e⟩:=(hs.row r _ hr).hvVal
     have hd':=H0 (u:=[r]) (v:=used) hd
     exact V3 hs (xs:=xs) (dst:=[r]) hut he hn ho hc (A4r hargs) (V4 hts) (A0d hts) (by rw[hv,e]) (.inr ⟨r,by simp,hr,e⟩) (by simpa using⟨g,xs,hr⟩) k1 k2 k3 hd'.2.2 hro h1
    ·cases h0
   ·cases h0
  |pa r i c'=>
   cases hdp:X.deep<;>simp only[hdp,zB,zA]at h
   ·cases h
   split at h
   ·rename_i τ0 hτ0
    obtain⟨G1,hs1,hl1,_⟩:=hs.takePa hdp (hs.ev1 hx (by simp)).1 hτ0
    have hsl:τ0.slots=σ.slots:=by
     unfold St.takePa at hτ0
     split at hτ0
     ·obtain⟨p,_,rfl⟩:=oM hτ0;rfl
     ·cases hτ0
    have hy1:τ0.ev1 y=some s:=by rw[←hy];cases y<;>simp[St.ev1,St.ev,hsl]
    obtain⟨⟨ys,used⟩,hsrc,h0⟩:=oB h
    dsimp only at hsrc h0
    have hsu:s≠ .undef:=by rintro rfl;simp[N4,H3]at hsrc
    rw[←hdp]at hsrc
    obtain⟨k1,k2,k3⟩:=A3t (P:=P) hs1 hsrc (hs1.ev1 hy1 hsu).1
    generalize key o.dst 50=n at h0 hl1
    split at h0
    ·rename_i g xs hr
     split at h0
     ·rename_i e;subst e
      cases hd:distinct (n::used)<;>simp only[hd,zB,zA]at h0
      ·cases h0
      obtain⟨τ,h1,h2⟩:=oB h0
      obtain⟨hro,rfl⟩:=zQ (oI h2)
      have hv:=hl1.2 g xs (St.dat_of hr)
      obtain⟨p,cap,e⟩:=(hs1.row n _ hr).hvVal
      have hd':=H0 (u:=[n]) (v:=used) hd
      exact V3 hs1 (xs:=xs) (dst:=[n]) hut he hn ho hc (A4r hargs) (V4 hts) (A0d hts) (by rw[hv,e]) (.inr ⟨n,by simp,hr,e⟩) (by simpa using⟨g,xs,hr⟩) k1 k2 k3 hd'.2.2 hro h1
     ·cases h0
    ·cases h0
   ·cases h
  |_=>cases h
 ·cases h
theorem alloc_old (w:World)(o:Obj){q:Nat}(hq:q<w.heap.size):(w.alloc o).heap[q]?=w.heap[q]?:=by
 show(w.heap.push o)[q]?=_
 rw[Array.getElem?_push,if_neg (by omega)]
theorem S9 (w:World)(o:Obj):(w.alloc o).heap[w.heap.size]?=some o:=by
 show(w.heap.push o)[w.heap.size]?=_
 simp
theorem A3j (hE:B4 P E)(hs:Sim X σ a w G){o:Oper}{t:TypeId}{x y:Operand}(ho:o.op= .makeSlice t x y)(h:W9 E o t x y σ=some (true,σ')):B1 P X o σ' a w:=by
 unfold W9 at h
 split at h
 ·rename_i e n m hel hx hy
  obtain⟨f,eb⟩:=e
  obtain⟨τ,h1,h2⟩:=oB h
  obtain⟨hr,rfl⟩:=zQ (oI h2)
  simp only[zJ,zG]at hr
  obtain⟨⟨rfl,hn0⟩,hroom⟩:=hr
  obtain⟨r1,r2⟩:=A3q hroom
  obtain⟨et,hut,j,z,hj,hsz,hby,hz,hzc⟩:=hE.el hel
  have hvx:=(hs.ev1 hx (by simp)).1
  have hvy:=(hs.ev1 hy (by simp)).1
  simp only[A5]at hvx hvy
  obtain⟨k,rfl⟩:∃k:Nat,n=(k:Int):=⟨n.toNat,by omega⟩
  simp only[zE]at r1 r2 h1
  have hzs:z.cells.size=f.size:=by rw[←zI1,hzc,E4]
  have hwrap:IntKind.i64.wrap (k:Int)=k:=IntWalk.i64_in _ (by omega)
  have hlarge:¬(281474976710656:Int)<(j.bytes:Int)*(k:Int):=by
   rw[hby,Int.mul_comm]
   have:((k*eb:Nat):Int)≤((140737488355328:Nat):Int):=Int.ofNat_le.mpr r1
   rw[Int.natCast_mul]at this;omega
  have hz2:∀w2:World,(zeroValue et).run P w2= .ok z w2:=fun w2=>by simp[zeroValue,run_typeInfo hj,hz]
  have hrun:∃arr:Array Value,(execOp a.eval o).run P w= .ok (.value (.slice (some ⟨w.heap.size,0,none⟩) k k)) (w.alloc (.cells arr et))∧arr.size=k*f.size∧∀q,q<k*f.size→arr[q]?=some (z.cells[q % z.cells.size]!):=by
   by_cases hk:k=0
   ·subst hk
    refine⟨#[],?_,by simp,fun q hq=>by omega⟩
    have hw0:IntKind.i64.wrap 0=0:=IntWalk.i64_in _ (by omega)
    simp[execOp,ho,hvx,hvy,Instr.makeSlice,underlying,hut,asInt,asIntOf,run_typeInfo hj,run_sizeOf hj,hw0,newRow]
    rw[show(Array.range 0)=#[]from Array.eq_empty_of_size_eq_zero (by simp),Array.map_empty]
   ·have hks:¬k*f.size=0:=fun h=>by have:=f.size_pos;rcases Nat.mul_eq_zero.mp h with h|h<;>omega
    refine⟨(Array.range (k*f.size)).map (fun q=>z.cells[q % z.cells.size]!),?_,by simp,fun q hq=>by simp[hq]⟩
    simp[execOp,ho,hvx,hvy,Instr.makeSlice,underlying,hut,asInt,asIntOf,run_typeInfo hj,run_sizeOf hj,hsz,hwrap,hlarge,hks,newRow,hz2]
    intro h;omega
  obtain⟨arr,hrun,hasz,harr⟩:=hrun
  have h1':(σ.kill []).fresh o 0 f (List.replicate k f.zero)=some τ:=h1
  refine B1.fresh hs (used:=[]) (own:=[]) (by simp) h1' hrun rfl (by simp) rfl rfl rfl (fun q hq _=>alloc_old w _ hq) (fun nn=>?_)
  have hel2:=A2t (w':=w.alloc (.cells arr et)) hs (used:=[]) (own:=[]) (n:=nn) (by simp) (xs:=List.replicate k f.zero) (arr:=arr) (e:=et) (fr:=(0,0)) (cap:=k) (by simp) (by simp)
   (S9 w _) (fun q hq=>alloc_old w _ hq) (by simp) hasz NK.new (ow:=fun _=>0) (fun i x hx=>by
    obtain⟨hi,hx'⟩:=List.getElem?_eq_some_iff.mp hx
    simp at hi hx'
    subst hx'
    have hsg:=A7w (z:=z.cells) hzc hi arr harr
    rw[hsg]
    exact(A1k (S:=fun _=>False) f).mono (fun _ h=>h.elim))
  simpa using hel2
 ·cases h
theorem A82:∀(l:List Value) (k off:Nat) (cs:Array Value),off+k+l.length≤cs.size→
  ((l.zipIdx k).foldl (fun cs (p:Value×Nat)=>cs.setIfInBounds (off+p.2) p.1) cs).size=cs.size∧
  ∀j,((l.zipIdx k).foldl (fun cs (p:Value×Nat)=>cs.setIfInBounds (off+p.2) p.1) cs)[j]?=if off+k≤j∧j<off+k+l.length then l[j - (off+k)]? else cs[j]?:=by
 intro l
 induction l with
 |nil=>intro k off cs _;exact⟨rfl,fun j=>by rw[if_neg (by simp)];rfl⟩
 |cons v l ih=>
  intro k off cs h
  simp only[zW]at h
  simp only[List.zipIdx_cons,List.foldl_cons]
  obtain⟨h1,h2⟩:=ih (k+1) off (cs.setIfInBounds (off+k) v) (by simp;omega)
  refine⟨by rw[h1];simp,fun j=>?_⟩
  rw[h2 j]
  by_cases hj:j=off+k
  ·subst hj
   rw[if_neg (by omega),if_pos (by simp)]
   simp[show off+k<cs.size by omega]
  ·by_cases hj2:off+(k+1)≤j∧j<off+(k+1)+l.length
   ·rw[if_pos hj2,if_pos (by simp;omega)]
    have:j - (off+k)=(j - (off+(k+1)))+1:=by omega
    rw[this,List.getElem?_cons_succ]
   ·rw[if_neg hj2,if_neg (by simp;omega),Array.getElem?_setIfInBounds_ne (by omega)]
theorem A5s (v:Value)(off:Nat)(cs:Array Value)(h:off+v.cells.size≤cs.size):
  (v.cells.zipIdx.foldl (fun cs (p:Value×Nat)=>cs.setIfInBounds (off+p.2) p.1) cs).size=cs.size∧
  ∀j,(v.cells.zipIdx.foldl (fun cs (p:Value×Nat)=>cs.setIfInBounds (off+p.2) p.1) cs)[j]?=if off≤j∧j<off+v.cells.size then v.cells[j - off]? else cs[j]?:=by
 have:=A82 v.cells.toList 0 off cs (by simpa using h)
 rw[←Array.foldl_toList]
 simpa using this
theorem A8x {sz:Nat}:∀(pv:List (Nat×Value)) (n:Nat) (cs:Array Value),(∀k p,pv[k]?=some p→p.1=n+k∧p.2.cells.size=sz)→(n+pv.length)*sz≤cs.size→
  ∃cs',Instr.fill (fun i=>some (i*sz,sz)) cs pv=some cs'∧cs'.size=cs.size∧
   ∀j,cs'[j]?=if n*sz≤j∧j<(n+pv.length)*sz then(pv.flatMap (·.2.cells.toList))[j - n*sz]? else cs[j]?:=by
 intro pv
 induction pv with
 |nil=>intro n cs _ _;exact⟨cs,rfl,rfl,fun j=>by rw[if_neg (by simp)]⟩
 |cons p pv ih=>
  intro n cs hp hle
  obtain⟨i,v⟩:=p
  obtain⟨hi,hv⟩:=hp 0 (i,v) rfl
  obtain rfl:n=i:=hi.symm
  simp only[zW]at hle hp
  have hle':n*sz+sz+pv.length*sz≤cs.size:=by
   rw[show n+(pv.length+1)=n+1+pv.length by omega,zD1,zD1,Nat.one_mul]at hle;exact hle
  dsimp only at hv
  obtain⟨h1,h2⟩:=A5s v (n*sz) cs (by omega)
  obtain⟨cs',k1,k2,k3⟩:=ih (n+1) _ (fun k p hk=>by have:=hp (k+1) p (by simpa using hk);exact⟨by omega,this.2⟩) (by rw[h1,zD1,zD1,Nat.one_mul];exact hle')
  refine⟨cs',?_,by rw[k2,h1],fun j=>?_⟩
  ·simp only[Instr.fill]
   rw[if_neg (by simp only[hv];simp;omega)]
   exact k1
  ·have e1:(n+1)*sz=n*sz+sz:=by rw[zD1,Nat.one_mul]
   have e2:(n+1+pv.length)*sz=n*sz+sz+pv.length*sz:=by rw[zD1,zD1,Nat.one_mul]
   have e3:(n+(pv.length+1))*sz=n*sz+sz+pv.length*sz:=by rw[←e2];congr 1;omega
   rw[k3 j,e1,e2]
   simp only[zW,e3,zV]
   by_cases hj:n*sz+sz≤j∧j<n*sz+sz+pv.length*sz
   ·rw[if_pos hj,if_pos (by omega),List.getElem?_append_right (by simp[hv];omega)]
    simp only[zI1,hv]
    congr 1;omega
   ·rw[if_neg hj,h2 j,hv]
    by_cases hj2:n*sz≤j∧j<n*sz+sz
    ·rw[if_pos hj2,if_pos (by omega),List.getElem?_append_left (by simp[hv];omega)]
     simp
    ·rw[if_neg hj2,if_neg (by omega)]
theorem A5n (hs:Sim X σ a w G){f:Kd}:∀{parts:List (Nat×Operand)} {n:Nat} {xs:List f.T} {used:List Nat},F4 X.deep σ f n parts=some (xs,used)→distinct used=true→
  parts.length=xs.length∧(∀k p,(parts.map fun q=>(q.1,a.eval q.2))[k]?=some p→p.1=n+k∧p.2.cells.size=f.size)∧(∀r∈used,∃g ys,σ.look r=some (.data g ys))∧
  ∃own:Nat→Nat,∀(i:Nat) (x:f.T),xs[i]?=some x→A2 X.deep w.heap f x ((((parts.map fun q=>(q.1,a.eval q.2)).flatMap (·.2.cells.toList)).drop (i*f.size)).take f.size)
   (fun q=>U6 X σ w.heap G used q∧(X.deep=true→own q=i)):=by
 intro parts
 induction parts with
 |nil=>
  intro n xs used h _
  simp only[F4]at h
  obtain⟨rfl,rfl⟩:=zQ (oI h)
  exact⟨rfl,by simp,by simp,fun _=>0,by simp⟩
 |cons p parts ih=>
  intro n xs used h hd
  obtain⟨i,x⟩:=p
  simp only[F4]at h
  cases hb:Nat.beq i n<;>simp only[hb,zB,zA]at h
  ·cases h
  have hin:i=n:=zN hb
  subst hin
  split at h
  ·rename_i y hy
   obtain⟨⟨z,u1,rest⟩,hz,h⟩:=oB h
   dsimp only at h
   split at h
   ·rename_i hrest
    obtain⟨⟨zs,u2⟩,hzs,h⟩:=oB h
    obtain⟨rfl,rfl⟩:=zQ (oI h)
    dsimp only at hd⊢
    obtain⟨d1,d2,d3⟩:=H0 hd
    obtain⟨_,hall,hrefs⟩:=hs.evT hy
    obtain⟨v1,v2,hv,hrest,hc,k3,k4,k5⟩:=T9 hs hz hall d1
    cases hrest
    rw[zH1]at hv
    obtain⟨m1,m2,m3,own,m4⟩:=ih hzs d2
    have hsz:(a.eval x).cells.size=f.size:=by rw[←zI1,hv,hc.len]
    refine⟨by simp[m1],?_,?_,fun q=>match G.rt q with|some r=>if r∈u1 then 0 else own q+1|none=>0,?_⟩
    ·intro k p hk
     cases k with
     |zero=>simp at hk;subst hk;exact⟨rfl,hsz⟩
     |succ k=>have:=m2 k p (by simpa using hk);exact⟨by omega,this.2⟩
    ·intro r hr
     rcases zY.mp hr with hr|hr
     ·exact k3 r hr
     ·exact m3 r hr
    ·intro k y hk
     cases k with
     |zero=>
      simp at hk;subst hk
      simp only[List.map_cons,zV,Nat.zero_mul,List.drop_zero,hv]
      rw[List.take_left' hc.len]
      refine hc.mono fun q hq=>⟨hq.mono fun r hr=>zZ _ hr,fun hdp=>?_⟩
      rcases hq with⟨r,hr,e⟩|⟨hf,_⟩
      ·simp[e,hr]
      ·rw[hdp]at hf;cases hf
     |succ k=>
      have:=m4 k y (by simpa using hk)
      simp only[List.map_cons,zV]
      rw[zD1,Nat.one_mul,Nat.add_comm (k*f.size),←List.drop_drop,List.drop_left' (by rw[zI1];exact hsz)]
      refine this.mono fun q hq=>⟨hq.1.mono fun r hr=>zA1 _ hr,fun hdp=>?_⟩
      rcases hq.1 with⟨r,hr,e⟩|⟨hf,_⟩
      ·simp only[e,if_neg (fun h=>d3 r h hr)];rw[hq.2 hdp]
      ·rw[hdp]at hf;cases hf
   ·cases h
  ·cases h
theorem A6r (hs:Sim X σ a w G){f:Kd}:∀{parts:List (Nat×Operand)} {n:Nat} {p:List f.T×List Nat},F4 false σ f n parts=some p→p.2=[]→
  parts.length=p.1.length∧(∀k q,(parts.map fun q=>(q.1,a.eval q.2))[k]?=some q→q.1=n+k∧q.2.cells.size=f.size)∧
  ∀(i:Nat) (x:f.T),p.1[i]?=some x→A2 false w.heap f x ((((parts.map fun q=>(q.1,a.eval q.2)).flatMap (·.2.cells.toList)).drop (i*f.size)).take f.size) (Imm X σ w.heap G):=by
 intro parts
 induction parts with
 |nil=>
  intro n p h _
  simp only[F4]at h
  obtain rfl:=oI h
  exact⟨rfl,by simp,by simp⟩
 |cons q0 parts ih=>
  intro n p h hp
  obtain⟨i,x⟩:=q0
  simp only[F4]at h
  cases hb:Nat.beq i n<;>simp only[hb,zB,zA]at h
  ·cases h
  have hin:i=n:=zN hb
  subst hin
  split at h
  ·rename_i y hy
   obtain⟨⟨z,u1,rest⟩,hz,h⟩:=oB h
   dsimp only at h
   split at h
   ·rename_i hrest
    obtain⟨⟨zs,u2⟩,hzs,h⟩:=oB h
    obtain rfl:=oI h
    simp only[List.append_eq_nil_iff]at hp
    obtain⟨rfl,rfl⟩:=hp
    obtain⟨_,hall,hrefs⟩:=hs.evT hy
    have hno:=A3g hz
    obtain⟨v1,v2,hv,hrest,hc,_⟩:=A3f hs (S:=Imm X σ w.heap G) (fun q hq=>hq) hz hall fun r hr=>by
     rcases hno r hr with h|h
     ·cases h
     ·simp at h
    cases hrest
    rw[zH1]at hv
    obtain⟨m1,m2,m4⟩:=ih hzs rfl
    have hsz:(a.eval x).cells.size=f.size:=by rw[←zI1,hv,hc.len]
    refine⟨by simp[m1],?_,?_⟩
    ·intro k p hk
     cases k with
     |zero=>simp at hk;subst hk;exact⟨rfl,hsz⟩
     |succ k=>have:=m2 k p (by simpa using hk);exact⟨by omega,this.2⟩
    ·intro k y hk
     cases k with
     |zero=>
      simp at hk;subst hk
      simp only[List.map_cons,zV,Nat.zero_mul,List.drop_zero,hv]
      rw[List.take_left' hc.len]
      exact hc
     |succ k=>
      have:=m4 k y (by simpa using hk)
      simp only[List.map_cons,zV]
      rw[zD1,Nat.one_mul,Nat.add_comm (k*f.size),←List.drop_drop,List.drop_left' (by rw[zI1];exact hsz)]
      exact this
   ·cases h
  ·cases h
theorem run_buildSlice (hE:B4 P E){o:Oper}{t:TypeId}{n:Nat}{ps:Array (Nat×Operand)}{f:Kd}(ho:o.op= .buildSlice t n ps)(hf:E.elemKd t=some f)(hlen:ps.toList.length=n)(hbig:n*f.size≤16777216)
  (m2:∀k q,(ps.toList.map fun q=>(q.1,a.eval q.2))[k]?=some q→q.1=0+k∧q.2.cells.size=f.size):
  ∃(cs':Array Value) (e:TypeId),cs'.size=n*f.size∧(execOp a.eval o).run P w= .ok (.value (.slice (some ⟨w.heap.size,0,none⟩) n n)) (w.alloc (.cells cs' e))∧
   ∀i,i<n→seg cs' (i*f.size) f.size=(((ps.toList.map fun q=>(q.1,a.eval q.2)).flatMap (·.2.cells.toList)).drop (i*f.size)).take f.size:=by
 obtain⟨e,i,hti,hu,j,z,hj,hsz,hby,hz,hzc⟩:=hE.elemKd hf
 have hzs:z.cells.size=f.size:=by rw[←zI1,hzc,E4]
 have hps:(ps.map fun q=>(q.1,a.eval q.2)).toList=ps.toList.map fun q=>(q.1,a.eval q.2):=by simp
 have hz2:∀w2:World,(zeroValue e).run P w2= .ok z w2:=fun w2=>by simp[zeroValue,run_typeInfo hj,hz]
 obtain⟨cs',k1,k2,k3⟩:=A8x (ps.toList.map fun q=>(q.1,a.eval q.2)) 0 ((Array.range (n*f.size)).map fun q=>z.cells[q % z.cells.size]!) m2 (by simp only[List.length_map,hlen];simp)
 have hcs:cs'.size=n*f.size:=by rw[k2];simp
 refine⟨cs',e,hcs,?_,fun i hi=>?_⟩
 ·have hr0:∀g:Nat→Value,(Array.range 0).map g=#[]:=fun g=>Array.eq_empty_of_size_eq_zero (by simp)
  have:(Instr.buildSlice t n (ps.map fun q=>(q.1,a.eval q.2))).run P w= .ok (.slice (some ⟨w.heap.size,0,none⟩) n n) (w.alloc (.cells cs' e)):=by
   unfold Instr.buildSlice
   simp[underlying,hu,run_sizeOf hj,hsz]
   rw[if_neg (by omega)]
   by_cases hk:n*f.size=0
   ·rw[if_pos hk]
    rw[hk,hr0]at k1⊢
    simp[k1,Go.newRow]
   ·rw[if_neg hk,hz2]
    simp[k1,Go.newRow]
  simp only[execOp,ho]
  simp[this]
 ·refine A1f fun q hq=>?_
  have:=D7 (n:=n) hi hq
  rw[k3,if_pos (by simp only[List.length_map,hlen,zS];omega),Nat.zero_mul,Nat.sub_zero]
theorem A2o (hE:B4 P E)(hs:Sim X σ a w G){o:Oper}{t:TypeId}{n:Nat}{ps:Array (Nat×Operand)}(ho:o.op= .buildSlice t n ps)(h:K0 E X.deep o t n ps σ=some (true,σ')):
  B1 P X o σ' a w:=by
 unfold K0 at h
 obtain⟨f,hf,h⟩:=oB h
 split at h
 ·rename_i q hxs
  obtain⟨xs,used⟩:=q
  dsimp only at h
  cases hl:Nat.beq xs.length n&&Nat.ble (n*f.size) 16777216<;>simp only[hl,zB,zA]at h
  ·cases h
  cases hd:distinct used<;>simp only[hd,zB,zA]at h
  ·cases h
  obtain⟨τ,h1,h2⟩:=oB h
  obtain⟨_,rfl⟩:=zQ (oI h2)
  simp only[zJ]at hl
  have hlen:xs.length=n:=zN hl.1
  have hbig:=Nat.ble_true hl.2
  obtain⟨m1,m2,m3,own,m4⟩:=A5n hs hxs hd
  obtain⟨cs',e,hcs,hrun,hseg⟩:=run_buildSlice (w:=w) hE ho hf (m1.trans hlen) hbig m2
  refine B1.fresh hs (used:=used) (own:=if X.deep=true then used else []) m3 h1 hrun rfl (by simp) rfl rfl rfl (fun q hq _=>alloc_old w _ hq) (fun nn=>?_)
  have:=A2t (w':=w.alloc (.cells cs' e)) hs (used:=used) (own:=if X.deep=true then used else []) (n:=nn) m3 (xs:=xs) (arr:=cs') (e:=e) (fr:=(0,0)) (cap:=n)
   (fun r hr hd=>by rw[if_pos hd];exact hr) (fun hd r _ _=>by rw[hd];simp) (S9 w _) (fun q hq=>alloc_old w _ hq) (by omega) hcs NK.new (ow:=own) (fun i x hx=>by
    have hi:i<n:=by rw[←hlen];exact(List.getElem?_eq_some_iff.mp hx).1
    rw[hseg i hi]
    exact m4 i x hx)
  rw[hlen]at this
  exact this
 ·cases hd:X.deep<;>simp only[hd,zB,zA]at h
  ·cases h
  obtain⟨⟨xs,used⟩,hxs,h⟩:=oB h
  dsimp only at h
  cases hl:Nat.beq xs.length n&&Nat.ble (n*f.size) 16777216&&used.isEmpty<;>simp only[hl,zB,zA]at h
  ·cases h
  simp only[okS,zO,zR,true_and]at h
  subst h
  simp only[zJ,List.isEmpty_iff]at hl
  obtain⟨⟨hl1,hl2⟩,rfl⟩:=hl
  have hlen:xs.length=n:=zN hl1
  have hbig:=Nat.ble_true hl2
  obtain⟨m1,m2,m4⟩:=A6r hs hxs rfl
  dsimp only at m1 m4
  obtain⟨cs',e,hcs,hrun,hseg⟩:=run_buildSlice (w:=w) hE ho hf (m1.trans hlen) hbig m2
  have hnone:∀r,G.rt w.heap.size≠some r:=fun r hr=>absurd (hs.lt _ r hr) (zP _)
  have hsz:w.heap.size<(w.alloc (.cells cs' e)).heap.size:=by simp
  have hs':Sim X σ a (w.alloc (.cells cs' e)) G:=hs.step rfl rfl (Nat.le_of_lt hsz) rfl rfl rfl (fun q hq _=>alloc_old w _ hq) (fun q r hr hl _=>⟨r,hr,hl⟩) (fun q r hr=>Nat.lt_trans (hs.lt q r hr) hsz) (fun r row h=>⟨row,h⟩) (fun r row h=>
   .inl ⟨h,rfl,fun _ q hq=>⟨hq,alloc_old w _ (hs.lt q r hq)⟩⟩)
  refine⟨_,_,G,.inl hrun,hs'.put (.inr ?_) (by simp[AV.refs,AV.leaves,TV.leaves,A0.refs])⟩
  have himm:∀q,Imm X σ w.heap G q→Imm X σ (w.alloc (.cells cs' e)).heap G q:=fun q hq=>⟨Nat.lt_trans hq.1 hsz,hq.2⟩
  show A2 false _ (.sl f) xs [_] _
  simp only[A2]
  refine .inr ⟨w.heap.size,0,n,cs',e,(0,0),fun _=>0,by rw[hlen],by omega,⟨hsz,.inr (.inr hs.size),fun r hr=>absurd hr (hnone r)⟩,S9 w _,by simp,fun i x hx=>?_⟩
  have hi:i<n:=by rw[←hlen];exact(List.getElem?_eq_some_iff.mp hx).1
  rw[zS,hseg i hi]
  exact((m4 i x hx).congr fun q hq=>alloc_old w _ hq.1).mono fun q hq=>⟨himm q hq,by simp⟩
theorem A3i (hE:B4 P E)(hs:Sim X σ a w G){o:Oper}{t:TypeId}{x i:Operand}(ho:o.op= .indexAddr t x i)
  (h:L0 E X.deep o t x i σ=some (true,σ')):B1 P X o σ' a w:=by
 unfold L0 at h
 split at h
 ·rename_i r j c hx
  cases hdp:X.deep<;>simp only[hdp,zB,zA]at h
  ·cases h
  split at h
  ·rename_i τ hτ
   obtain⟨G1,hs1,hl1,row,hrow⟩:=hs.takePa hdp (hs.ev1 hx (by simp)).1 hτ
   have hsl:τ.slots=σ.slots:=by
    unfold St.takePa at hτ
    split at hτ
    ·obtain⟨p,_,rfl⟩:=oM hτ;rfl
    ·cases hτ
   unfold A4w at h
   generalize key o.dst 50=n0 at h hl1 hrow
   split at h
   ·rename_i k n f xs hi hr0
    cases hel:E.isEl t f<;>simp only[hel,zB,zA]at h
    ·cases h
    obtain⟨hr,rfl⟩:=zQ (oI h)
    simp only[inR,zG]at hr
    obtain⟨e,eb,hu,he⟩:=hE.isEl hel
    have h1:=(hs1.ev1 hi (by simp)).1
    have hv:=hl1.2 f xs (St.dat_of hr0)
    simp only[A5]at h1
    have hlt:n.toNat<xs.length:=by omega
    rcases hs1.row n0 _ hr0 with⟨rfl,_⟩|⟨b,cap,arr,et,fr,ow,d1,_⟩
    ·simp at hlt
    ·rw[d1]at hv
     have:=run_indexAt (w:=w) (b:=b) (o:=0) (cap:=cap) (k:=k) hu he hr
     refine B1.put hs1 (v:= .pointer (some ⟨b,0+n.toNat*f.size,none⟩)) (by simp[execOp,ho,h1,hv,this]) (Or.inr ?_) (by
      intro r hr
      simp only[AV.refs_one,A0.refs,zF1]at hr
      subst hr;exact⟨_,hrow⟩)
     refine⟨rfl,fun f' xs' hr'=>?_,fun f' ls' hr'=>?_⟩
     ·obtain⟨rfl,hq⟩:=St.dat_data hr0 hr';obtain rfl:=eq_of_heq hq
      exact⟨hlt,b,_,cap,d1,by simp⟩
     ·rw[hr0]at hr';simp at hr'
   ·cases h
  ·cases h
 ·exact A2p hE hs ho h
end
end Go.Proofs.Ytalmhjlcjcnidaa.Ev

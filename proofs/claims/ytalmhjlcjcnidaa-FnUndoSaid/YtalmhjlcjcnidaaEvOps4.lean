/- Operations that make memory. -/
import Derived.Test.YtalmhjlcjcnidaaEvMem
set_option linter.all false
namespace Go.Proofs.Ytalmhjlcjcnidaa.Ev
open Go
section
variable {P:Program} {E:Env} {X:Ctx} {σ σ':St} {a:Act} {w w':World} {G:Gh}
theorem Sim.take_drop (hs:Sim X σ a w G){used own:List Nat}{n:Nat}(hsize:w.heap.size≤w'.heap.size){row:A6}{v:Value}{q r:Nat}(hq:G.rt q=some r)(hu:r∈used)
  (hused:∃f xs,σ.look r=some (.data f xs)) (ho:r∉own):Imm X ((σ.kill used).setRow n row) w'.heap (G.take w w' used own n v) q:=by
 have hlt:=hs.lt q r hq
 obtain⟨f,xs,hl⟩:=hused
 refine⟨by omega,?_,fun r' hr'=>?_⟩
 ·by_cases h:X.w0.heap.size≤q
  ·exact .inr (.inr h)
  ·exact .inr (.inl (hs.ownA q r hq ⟨_,hl,by simp⟩ (by omega)))
 ·rw[Gh.take_rt hlt hq,if_pos hu,if_neg ho]at hr';cases hr'
theorem A83 {o:Oper}{j:Nat}{f:Kd}{xs:List f.T}(h:σ.fresh o j f xs=some σ'):
  ∃n,σ.look n=none∧σ'=(σ.setRow n (.data f xs)).put o.dst (.v (.one (.ow n))):=by
 unfold St.fresh at h
 obtain⟨τ,h1,rfl⟩:=oM h
 simp only[St.addRows]at h1
 split at h1
 ·rename_i hn
  simp only[zO]at h1
  subst h1
  exact⟨_,hn,rfl⟩
 ·cases h1
theorem B1.fresh (hs:Sim X σ a w G){used own:List Nat}(hused:∀r∈used,∃f xs,σ.look r=some (.data f xs)){o:Oper}{j:Nat}{f:Kd}{xs:List f.T}
  (h:(σ.kill used).fresh o j f xs=some σ') {v:Value} (hrun:(execOp a.eval o).run P w= .ok (.value v) w') (hv:v.oneCell'=true)
  (hsize:w.heap.size≤w'.heap.size) (hos:w'.os=w.os) (htape:w'.tape=w.tape) (hout:w'.output=w.output)
  (hfree:∀q,q<w.heap.size→(∀r∈used,G.rt q≠some r)→w'.heap[q]?=w.heap[q]?)
  (hrow:∀n,E7 X ((σ.kill used).setRow n (.data f xs)) w'.heap (G.take w w' used own n v) n (.data f xs)):B1 P X o σ' a w:=by
 obtain⟨n,hn,rfl⟩:=A83 h
 have hn':σ.look n=none:=by
  rw[A9]at hn
  split at hn
  ·cases hn
  ·exact hn
 have hs':=hs.newRow (own:=own) hused hn' hsize hos htape hout hfree (hrow n) (fun f ls e=>by cases e)
 refine⟨v,w',_,.inl hrun,hs'.put (Or.inr ⟨hv,fun f' xs' hl=>?_⟩) ?_⟩
 ·rw[Gh.take_hv]
 ·intro r hr
  simp only[AV.refs_one,A0.refs,zF1]at hr
  subst hr
  exact⟨_,by rw[A3,if_pos rfl]⟩
theorem A2t {used:List Nat}(hs:Sim X σ a w G)(hused:∀r∈used,∃f xs,σ.look r=some (.data f xs)){n:Nat}{f:Kd}{xs:List f.T}{arr:Array Value}{e:TypeId}{fr:Nat×Nat}{cap:Nat}{own:List Nat}
  (hown:∀r∈used,X.deep=true→r∈own) (hdrop:X.deep=false→∀r∈used,(∃q,U6 X σ w.heap G used q∧G.rt q=some r)→r∉own)
  (hb:w'.heap[w.heap.size]?=some (.cells arr e fr)) (hold:∀q,q<w.heap.size→w'.heap[q]?=w.heap[q]?) (hlen:xs.length≤cap) (harr:arr.size=cap*f.size) (hfr:NK f fr arr.size)
  {ow:Nat→Nat} (hel:∀(i:Nat) (x:f.T),xs[i]?=some x→A2 X.deep w.heap f x (seg arr (i*f.size) f.size) (fun q=>U6 X σ w.heap G used q∧(X.deep=true→ow q=i))):
  E7 X ((σ.kill used).setRow n (.data f xs)) w'.heap (G.take w w' used own n (.slice (some ⟨w.heap.size,0,none⟩) xs.length cap)) n (.data f xs):=by
 have hsz:w.heap.size<w'.heap.size:=by
  rcases zE1 w.heap.size w'.heap.size with h|h
  ·exact h
  ·rw[Array.getElem?_eq_none h]at hb;cases hb
 have hlt:∀q,U6 X σ w.heap G used q→q<w.heap.size:=by
  intro q hq
  rcases hq with⟨r,_,e⟩|⟨_,h⟩
  ·exact hs.lt q r e
  ·exact h.1
 refine .inr ⟨w.heap.size,cap,arr,e,fr,ow,Gh.take_hv,hlen,Gh.take_new (by omega) hsz,hb,harr,hfr,fun i x hx=>?_⟩
 refine(A2.congr (fun q hq=>hold q (hlt q hq.1)) (hel i x hx)).mono fun q hq=>?_
 unfold C0
 split
 ·rename_i hd
  rcases hq.1 with⟨r,hr,e⟩|⟨hf,_⟩
  ·exact⟨by rw[Gh.take_rt (hs.lt q r e) e,if_pos hr,if_pos (hown r hr hd)],by have:=hs.lt q r e;omega,hq.2 hd⟩
  ·rw[hd]at hf;cases hf
 ·rename_i hd
  have hd':X.deep=false:=by simpa using hd
  rcases hq.1 with⟨r,hr,e⟩|⟨_,hi⟩
  ·exact hs.take_drop (by omega) e hr (hused r hr) (hdrop hd' r hr ⟨q,hq.1,e⟩)
  ·exact A1i hused (by omega) hi
theorem A56 (hs:Sim X σ a w G){o:Oper}{x:Operand}(ho:o.op= .move x∨o.op= .assign x){f:Kd}(hx:σ.ev x=some (.v (.one .nil)))(h:σ.fresh o 0 f []=some σ'):B1 P X o σ' a w:=by
 have hv:=(hs.ev hx).1
 replace hv:a.eval x= .slice none 0 0:=hv.resolve_left (by simp)
 have h':(σ.kill []).fresh o 0 f []=some σ':=h
 refine B1.fresh hs (used:=[]) (own:=[]) (by simp) h' (v:= .slice none 0 0) (w':=w) ?_ rfl (Nat.le_refl _) rfl rfl rfl (fun q _ _=>rfl) (fun _=> .inl ⟨rfl,Gh.take_hv⟩)
 rcases ho with ho|ho<;>simp[execOp,ho,hv]
theorem A4k (hs:Sim X σ a w G){o:Oper}{x:Operand}(ho:o.op= .move x∨o.op= .assign x)(h:A1y E o x σ=some (true,σ')):B1 P X o σ' a w:=by
 unfold A1y at h
 split at h
 ·rename_i hx
  obtain⟨f,_,h⟩:=oB h
  obtain⟨τ,h1,h2⟩:=oB h
  obtain⟨_,rfl⟩:=zQ (oI h2)
  exact A56 hs ho hx h1
 ·rename_i av hx _
  obtain⟨_,rfl⟩:=zQ (oI h)
  obtain⟨h1,h2⟩:=hs.ev (by assumption)
  exact B1.put hs (by rcases ho with ho|ho<;>simp[execOp,ho]) h1 h2
 ·cases h
theorem A1k {h:Array Obj}{S:Nat→Prop}{o:Bool}:∀f:Kd,A2 o h f f.zero (B3 f) S
 | .int _=>by simp[A2,Kd.zero,B3]
 | .bool=>by simp[A2,Kd.zero,B3]
 | .str=>by simp[A2,Kd.zero,B3]
 | .sl f=>by simp only[A2,Kd.zero,B3];exact .inl ⟨trivial,none,0,rfl,fun _=>⟨rfl,rfl⟩⟩
 | .pair a b=>by
  simp only[A2,Kd.zero,B3]
  exact⟨_,_,fun _=>true,rfl,A1k a,A1k b⟩
theorem E4:∀f:Kd,(B3 f).length=f.size
 | .int _| .bool| .str| .sl _=>rfl
 | .pair a b=>by simp[B3,Kd.size,E4 a,E4 b]
theorem A7w {z:Array Value}{f:Kd}(hz:z.toList=B3 f){n i:Nat}(hi:i<n)(T:Array Value)(hT:∀j,j<n*f.size→T[j]?=some (z[j % z.size]!)):
  seg T (i*f.size) f.size=B3 f:=by
 have hzs:z.size=f.size:=by rw[←zI1,hz,E4]
 have hpos:=f.size_pos
 have hbound:∀c,c<f.size→i*f.size+c<n*f.size:=by
  intro c hc
  have:(i+1)*f.size≤n*f.size:=Nat.mul_le_mul_right _ hi
  rw[zD1,Nat.one_mul]at this;omega
 apply List.ext_getElem?
 intro c
 by_cases hc:c<f.size
 ·rw[C5 hc,hT _ (hbound c hc)]
  have:(i*f.size+c) % z.size=c:=by rw[hzs,Nat.mul_add_mod_self_right,Nat.mod_eq_of_lt hc]
  rw[this,←hz]
  have hcz:c<z.size:=by omega
  simp[hcz]
 ·have h1:(seg T (i*f.size) f.size).length≤c:=by simp only[seg,List.length_take];omega
  rw[List.getElem?_eq_none h1,List.getElem?_eq_none (by rw[E4];omega)]
theorem A2.flatAny {o o':Bool}{h h':Array Obj}:∀{f:Kd} {x:f.T} {vs:List Value} {S S':Nat→Prop},f.flat=true→A2 o h f x vs S→A2 o' h' f x vs S'
 | .int _,_,_,_,_,_,hc=>hc
 | .bool,_,_,_,_,_,hc=>hc
 | .str,_,_,_,_,_,hc=>hc
 | .sl f,_,_,_,_,hf,_=>by simp[Kd.flat]at hf
 | .pair a b,p,vs,S,S',hf,hc=>by
  simp only[Kd.flat,zJ]at hf
  simp only[A2]at hc⊢
  obtain⟨v1,v2,side,e,h1,h2⟩:=hc
  exact⟨v1,v2,side,e,A2.flatAny hf.1 h1,A2.flatAny hf.2 h2⟩
def A2x (X:Ctx)(σ:St)(h:Array Obj)(G:Gh)(f:Kd)(xs:List f.T)(v:Value):Prop:=
 ∃p c,v= .slice p xs.length c∧(xs=[]∨∃b off arr e fr,p=some ⟨b,off,none⟩∧h[b]?=some (.cells arr e fr)∧
  ∀(i:Nat) (x:f.T),xs[i]?=some x→A2 false h f x (seg arr (off+i*f.size) f.size) (fun q=>X.deep=true∨Imm X σ h G q))
theorem E7.view {r:Nat}{f:Kd}{xs:List f.T}{h:Array Obj}(hr:E7 X σ h G r (.data f xs)):A2x X σ h G f xs (G.hv r):=by
 rcases hr with⟨rfl,e⟩|⟨b,cap,arr,e,fr,ow,d1,d2,d3,d4,d5,d6,d7⟩
 ·exact⟨none,0,e,.inl rfl⟩
 ·refine⟨_,cap,d1,.inr ⟨b,0,arr,e,fr,rfl,d4,fun i x hx=>?_⟩⟩
  rw[zS]
  refine(d7 i x hx).toRd.mono fun q hq=>?_
  unfold C0 at hq
  split at hq
  ·rename_i hd;exact .inl hd
  ·exact .inr hq
theorem A2.view {o:Bool}{f:Kd}{xs:List f.T}{h:Array Obj}{v:Value}{S:Nat→Prop}(hr:A2 o h (.sl f) xs [v] S)(hS:X.deep=false→∀q,S q→Imm X σ h G q):A2x X σ h G f xs v:=by
 simp only[A2]at hr
 rcases hr with⟨rfl,p,c,e,_⟩|⟨b,off,cap,arr,e,fr,ow,e1,e2,e3,e4,e5,e6⟩
 ·simp at e;exact⟨p,c,e,.inl rfl⟩
 ·simp at e1
  refine⟨_,cap,e1,.inr ⟨b,off,arr,e,fr,rfl,e4,fun i x hx=>(e6 i x hx).toRd.mono fun q hq=>?_⟩⟩
  cases hd:X.deep
  ·exact .inr (hS hd q hq.1)
  ·exact .inl rfl
theorem Sim.view (hs:Sim X σ a w G){l:A0}{v:Value}{f:Kd}{xs:List f.T}(h:H3 σ l=some (.sh f xs))(hl:A5 X σ w.heap G l v):A2x X σ w.heap G f xs v:=by
 cases l<;>simp only[H3]at h<;>try (cases h;done)
 case sh g ys=>
  simp at h;obtain⟨rfl,hq⟩:=h;obtain rfl:=eq_of_heq hq
  exact A2.view hl fun _ q hq=>hq
 case ow r=>
  split at h
  ·rename_i g ys hr
   simp at h;obtain⟨rfl,hq⟩:=h;obtain rfl:=eq_of_heq hq
   rw[hl.2 _ _ (St.dat_of hr)];exact(hs.row r _ hr).view
  ·cases h
 case sub r off len=>
  split at h
  ·rename_i g ys hr
   simp at h;obtain⟨rfl,hq⟩:=h;obtain rfl:=eq_of_heq hq
   obtain⟨h1,h2⟩:=hl.2 _ _ (St.dat_of hr)
   have hlen:((ys.drop off).take len).length=len:=by simp;omega
   rcases h2 with⟨rfl,p,c,e⟩|⟨b,n,cap,c',e1,e2,e3⟩
   ·exact⟨p,c,by simpa using e,.inl (by simp)⟩
   ·obtain⟨p,c,k1,k2⟩:=(hs.row r _ hr).view
    rw[e1]at k1;simp at k1;obtain⟨rfl,rfl,rfl⟩:=k1
    refine⟨_,c',by rw[hlen];exact e2,?_⟩
    rcases k2 with rfl|⟨b',off',arr,e,fr,k3,k4,k5⟩
    ·exact .inl (by simp)
    ·simp at k3;obtain⟨rfl,rfl⟩:=k3
     refine .inr ⟨b,off*_,arr,e,fr,rfl,k4,fun i x hx=>?_⟩
     have hi:i<len:=by rw[←hlen];exact(List.getElem?_eq_some_iff.mp hx).1
     rw[List.getElem?_take,if_pos hi,List.getElem?_drop]at hx
     have:=k5 _ _ hx
     rw[zD1,zS]at this
     exact this
  ·cases h
 case pa r i c=>
  split at h
  ·rename_i g ys hr
   obtain⟨p,hp,h⟩:=oM h
   simp at h;obtain⟨rfl,hq⟩:=h;obtain rfl:=eq_of_heq hq
   obtain⟨S,h1,h2⟩:=hs.pa (g:=p.1) (ys:=p.2) hl hr hp
   exact A2.view h1 h2
  ·cases h
 case clo g caps=>obtain⟨_,_,h⟩:=oM h;cases h
def A7e (P:Program)(X:Ctx)(σ:St)(w:World)(G:Gh)(f:Kd)(v:Value)(ys:List f.T)(used:List Nat):Prop:=
 ∃(vals:List Value) (own:Nat→Nat),vals.length=ys.length*f.size∧
  (∀w2:World,w2.heap=w.heap→(Builtin.lenOf v).run P w2= .ok ys.length w2∧(Builtin.firstCells f.size ys.length v).run P w2= .ok vals.toArray w2)∧
  ∀(i:Nat) (y:f.T),ys[i]?=some y→A2 X.deep w.heap f y ((vals.drop (i*f.size)).take f.size) (fun q=>U6 X σ w.heap G used q∧(X.deep=true→own q=i))
theorem A3r {arr:Array Value}{off n sz:Nat}(hsz:0<sz)(h:∀i,i<n→(seg arr (off+i*sz) sz).length=sz):(seg arr off (n*sz)).length=n*sz:=by
 simp only[seg,List.length_take,List.length_drop,zI1]at h⊢
 rcases Nat.eq_zero_or_pos n with rfl|hn
 ·simp
 ·have:=h (n - 1) (by omega)
  have e:n*sz=(n - 1)*sz+sz:=by
   obtain⟨m,rfl⟩:∃m,n=m+1:=⟨n - 1,by omega⟩
   simp[zD1]
  omega
theorem A1g {arr:Array Value}{off n sz i:Nat}(hi:i<n):((seg arr off (n*sz)).drop (i*sz)).take sz=seg arr (off+i*sz) sz:=by
 have:(i+1)*sz≤n*sz:=Nat.mul_le_mul_right _ hi
 rw[zD1,Nat.one_mul]at this
 exact A59 this
theorem A2x.src {f:Kd}{xs:List f.T}{v:Value}(h:A2x X σ w.heap G f xs v){used:List Nat}(hS:f.flat=true∨X.deep=false):A7e P X σ w G f v xs used:=by
 obtain⟨p,c,rfl,h⟩:=h
 rcases h with rfl|⟨b,off,arr,e,fr,rfl,hb,hel⟩
 ·refine⟨[],fun _=>0,by simp,fun w2 _=>⟨by simp[Builtin.lenOf],?_⟩,by simp⟩
  cases p<;>simp[Builtin.firstCells,loadCells,loadCellsFrom]
 ·have hlens:(seg arr off (xs.length*f.size)).length=xs.length*f.size:=A3r f.size_pos fun i hi=>(hel i _ (List.getElem?_eq_getElem hi)).len
  refine⟨seg arr off (xs.length*f.size),fun _=>0,hlens,fun w2 hw=>⟨by simp[Builtin.lenOf],?_⟩,fun i y hy=>?_⟩
  ·simp only[Builtin.firstCells]
   exact F7 (w:=w2) (by rw[hw];exact hb) hlens
  ·rw[A1g (List.getElem?_eq_some_iff.mp hy).1]
   rcases hS with hS|hS
   ·exact A2.flatAny hS (hel i y hy)
   ·rw[hS]
    refine(hel i y hy).mono fun q hq=>⟨.inr ⟨hS,hq.resolve_left (by simp[hS])⟩,fun h=>by simp at h⟩
theorem A3t (hs:Sim X σ a w G){f:Kd}{l:A0}{v:Value}{ys:List f.T}{used:List Nat}(h:N4 X.deep σ f l=some (ys,used))(hl:A5 X σ w.heap G l v):
  A7e P X σ w G f v ys used∧(∀r∈used,∃g xs,σ.look r=some (.data g xs))∧∀r∈used,X.deep=true:=by
 unfold N4 at h
 split at h
 ·obtain⟨rfl,rfl⟩:=zQ (oI h)
  simp only[A5]at hl;subst hl
  exact⟨⟨[],fun _=>0,by simp,fun w2 _=>⟨by simp[Builtin.lenOf],by simp[Builtin.firstCells]⟩,by simp⟩,by simp,by simp⟩
 ·rename_i s
  split at h
  ·rename_i e;subst e
   obtain⟨rfl,rfl⟩:=zQ (oI h)
   simp only[A5]at hl;subst hl
   refine⟨⟨s.data.toList.map fun b=> .int .u8 b.toNat,fun _=>0,by simp[L7,Kd.size],fun w2 _=>⟨?_,?_⟩,fun i y hy=>?_⟩,by simp,by simp⟩
   ·simp only[Builtin.lenOf,L7,List.length_map,zI1];rfl
   ·have e:s.extract 0 s.size=s:=by simp
    have e2:(L7 rfl (s.data.toList.map fun b=>(b.toNat:Int)):List (Kd.int .u8).T).length=s.size:=by simp[L7]
    simp only[e2]
    show(Builtin.firstCells 1 s.size (.string s)).run P w2=_
    simp only[Builtin.firstCells,e]
    rw[←Array.toList_map]
    rfl
   ·simp only[L7]at hy
    rw[List.getElem?_map]at hy
    obtain⟨b,hb,rfl⟩:=oM hy
    simp only[A2,Kd.size,Nat.mul_one]
    rw[←List.map_drop,zC1 (List.getElem?_eq_some_iff.mp hb).1]
    simp[(List.getElem?_eq_some_iff.mp hb).2]
  ·cases h
 ·rename_i r
  split at h
  ·rename_i g xs hr
   split at h
   ·rename_i e;subst e
    obtain⟨rfl,rfl⟩:=zQ (oI h)
    have hv:=hl.2 _ _ (St.dat_of hr)
    cases hc:X.deep&& !g.flat<;>simp only[zB,zA]
    ·refine⟨?_,by simp,by simp⟩
     rw[hv]
     refine(hs.row r _ hr).view.src ?_
     cases hd:X.deep
     ·exact .inr rfl
     ·rw[hd]at hc;simp at hc;exact .inl hc
    ·simp only[zJ]at hc
     refine⟨?_,by simpa using⟨g,xs,hr⟩,fun _ _=>hc.1⟩
     rw[hv]
     show A7e P X σ w G g (G.hv r) xs [r]
     rcases hs.row r _ hr with⟨rfl,e⟩|⟨b,cap,arr,e,fr,ow,d1,d2,d3,d4,d5,d6,d7⟩
     ·rw[e]
      exact⟨[],fun _=>0,by simp,fun w2 _=>⟨by simp[Builtin.lenOf],by simp[Builtin.firstCells]⟩,by simp⟩
     ·have hlens:(seg arr 0 (xs.length*g.size)).length=xs.length*g.size:=A3r g.size_pos fun i hi=>by rw[zS];exact(d7 i _ (List.getElem?_eq_getElem hi)).len
      refine⟨seg arr 0 (xs.length*g.size),ow,hlens,fun w2 hw=>⟨by simp[Builtin.lenOf,d1],?_⟩,fun i y hy=>?_⟩
      ·simp only[Builtin.firstCells,d1]
       exact F7 (w:=w2) (by rw[hw];exact d4) hlens
      ·rw[A1g (List.getElem?_eq_some_iff.mp hy).1,zS]
       refine(d7 i y hy).mono fun q hq=>?_
       unfold C0 at hq
       rw[if_pos hc.1]at hq
       exact⟨.inl ⟨r,by simp,hq.1⟩,fun _=>hq.2.2⟩
   ·cases h
  ·cases h
 ·rename_i l _ _ _
  split at h
  ·rename_i g xs hro
   cases hc:X.deep&& !f.flat<;>simp only[hc,zB,zA]at h
   ·split at h
    ·rename_i e;subst e
     obtain⟨rfl,rfl⟩:=zQ (oI h)
     refine⟨(hs.view hro hl).src ?_,by simp,by simp⟩
     cases hd:X.deep
     ·exact .inr rfl
     ·rw[hd]at hc;simp at hc;exact .inl hc
    ·cases h
   ·cases h
  ·cases h
end
end Go.Proofs.Ytalmhjlcjcnidaa.Ev

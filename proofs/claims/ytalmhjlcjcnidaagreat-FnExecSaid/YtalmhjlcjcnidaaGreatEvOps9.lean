/- Stores, structs: the operations. -/
import Derived.Test.YtalmhjlcjcnidaaGreatEvOps8
import Derived.Laws.Tables
set_option linter.all false
namespace Go.Proofs.YtalmhjlcjcnidaaGreat.Ev
open Go
section
variable {P:Program} {E:Env} {X:Ctx} {σ σ':St} {a:Act} {w w':World} {G:Gh}
theorem A7.ones {ls:List A0}{vs:List Value}{h:Array Obj}(hl:A7 (A5 X σ h G) ls vs):∀v∈vs,v.oneCell'=true:=by
 induction hl with
 |nil=>simp
 |cons h _ ih=>
  intro v hv
  rcases List.mem_cons.mp hv with rfl|hv
  ·exact h.oneCell
  ·exact ih v hv
theorem A68 {arr arr':Array Value}{c:Nat}{vs:List Value}(hle:c+vs.length≤arr.size)(h4:∀j,arr'[j]?=if c≤j∧j<c+vs.length then vs[j - c]? else arr[j]?):
  arr'.toList=arr.toList.take c++vs++arr.toList.drop (c+vs.length):=by
 apply List.ext_getElem?
 intro j
 rw[Array.getElem?_toList,h4 j]
 by_cases h:j<c
 ·rw[if_neg (by omega),List.append_assoc,List.getElem?_append_left (by simp;omega),List.getElem?_take,if_pos h,Array.getElem?_toList]
 ·by_cases h2:j<c+vs.length
  ·rw[if_pos (by omega),List.getElem?_append_left (by simp;omega),List.getElem?_append_right (by simp;omega)]
   congr 1;simp;omega
  ·rw[if_neg (by omega),List.getElem?_append_right (by simp;omega),List.getElem?_drop,Array.getElem?_toList]
   congr 1;simp;omega
theorem A7t {arr arr':Array Value}{o n c:Nat}{vs:List Value}(hle:c+vs.length≤n)(hn:(seg arr o n).length=n)(h4:∀j,arr'[j]?=if o+c≤j∧j<o+c+vs.length then vs[j - (o+c)]? else arr[j]?):
  seg arr' o n=(seg arr o n).take c++vs++(seg arr o n).drop (c+vs.length):=by
 apply List.ext_getElem?
 intro j
 by_cases hj:j<n
 ·rw[C5 hj,h4]
  by_cases h:j<c
  ·rw[if_neg (by omega),List.append_assoc,List.getElem?_append_left (by simp;omega),List.getElem?_take,if_pos h,C5 hj]
  ·by_cases h2:j<c+vs.length
   ·rw[if_pos (by omega),List.getElem?_append_left (by simp;omega),List.getElem?_append_right (by simp;omega)]
    congr 1;simp;omega
   ·rw[if_neg (by omega),List.getElem?_append_right (by simp;omega),List.getElem?_drop]
    have e:c+vs.length+(j - ((seg arr o n).take c++vs).length)=j:=by simp;omega
    rw[e,C5 hj]
 ·rw[T4 (by omega),List.getElem?_eq_none]
  simp;omega
theorem A2l {σ:St}{G:Gh}(hs:Sim X σ a w G){r c:Nat}{f:Kd}{ls zl:List A0}{x:Operand}{vs:List Value}(h1:A5 X σ w.heap G (.ptr r 0 c) (a.eval x))(hr:σ.look r=some (.box f ls))(k2:A7 (A5 X σ w.heap G) zl vs)
  (hd2:∀l∈zl,∀q∈l.refs,∃row,σ.look q=some row) (hle:c+vs.length≤ls.length):∃b w' G',a.eval x= .pointer (some ⟨b,c,none⟩)∧(storeCells ⟨b,c,none⟩ vs 0).run P w= .ok () w'∧Sim X (σ.setRow r (.box f (putAt ls c zl))) a w' G':=by
 obtain⟨b,hv,e⟩:=h1.2.2 f ls hr
 obtain⟨b',arr,et,fr,d1,d2,d3,d4,d5,d6⟩:=hs.row r _ hr
 rw[hv]at d1;simp at d1;subst d1
 have harr:arr.size=ls.length:=by rw[d6.length,zI1]
 obtain⟨w',arr',s1,s2,s3,s4,s5,s6,s7,s8,s9⟩:=G9 (P:=P) (off:=c) vs 0 w arr d3 d4 (by omega) k2.ones
 rw[Nat.add_zero]at s4
 have hq:∀q,G.rt q≠some r→w'.heap[q]?=w.heap[q]?:=fun q hq=>s5 q fun e=>hq (by rw[e];exact d2)
 have hc:P5 (.box f ls) (.box f (putAt ls c zl)):=trivial
 have F:=B22 (X:=X) (used:=[]) (own:=[r]) (row:= .box f (putAt ls c zl)) (by simp) hr (by simp) (by simp) hc s6 hq
 have hK:∀(l:A0) (v:Value),(∀q∈l.refs,∃row,σ.look q=some row)→A5 X σ w.heap G l v→
   A5 X ((σ.kill []).setRow r (.box f (putAt ls c zl))) w'.heap (G.take w w' [r] [r] r (G.hv r)) l v:=by
  intro l v hd hlv
  refine A5.pres F hd ?_ hlv
  rintro q i' c' rfl g ys hg b2 n cap hv2
  have hg':σ.dat q g ys:=by
   obtain⟨row',hg,har⟩:=hg
   rw[A3]at hg
   split at hg
   ·obtain rfl:=oI hg;cases har
   ·exact⟨_,hg,har⟩
  have m3:=hs.datRt hg' hv2
  refine hq b2 fun e'=>?_
  rw[m3]at e';obtain rfl:=oI e'
  exact St.dat_box hr hg'
 have hd1:∀l∈ls,∀q∈l.refs,∃row,σ.look q=some row:=fun l hl q hq=>hs.rrefs r f ls hr q (by simp only[zB1];exact⟨l,hl,hq⟩)
 have hzl:=k2.length
 refine⟨b,w',_,e,s1,hs.reRow (used:=[]) (own:=[]) (by simp) hr (by simp) (by simp) hc (.inr ⟨_,_,rfl⟩) s6 s7 s8 s9 hq ?_ ?_⟩
 ·refine⟨b,arr',et,fr,by rw[Gh.take_hv];exact hv,by rw[Gh.take_rt (hs.lt b r d2) d2];simp,s2,by rw[s3];exact d4,?_,?_⟩
  ·rw[←d5];simp only[putAt,List.length_append,List.length_take,List.length_drop];omega
  ·rw[A68 (by omega) s4,←hzl]
   have:=(((d6.take c).monoMem fun l hl v hv=>hK l v (hd1 l (List.mem_of_mem_take hl)) hv).append (k2.monoMem fun l hl v hv=>hK l v (hd2 l hl) hv)).append
    ((d6.drop (c+zl.length)).monoMem fun l hl v hv=>hK l v (hd1 l (List.mem_of_mem_drop hl)) hv)
   exact this
 ·intro f' ls' e' q hq'
  simp at e';obtain⟨_,rfl⟩:=e'
  have:∃row,σ.look q=some row:=by
   obtain⟨l,hl,hq'⟩:=zB1.mp hq'
   simp only[putAt,zY]at hl
   rcases hl with(hl|hl)|hl
   ·exact hd1 l (List.mem_of_mem_take hl) q hq'
   ·exact hd2 l hl q hq'
   ·exact hd1 l (List.mem_of_mem_drop hl) q hq'
  obtain⟨row,hrow⟩:=this
  rw[A3,A3b]
  split
  ·exact⟨_,rfl⟩
  ·exact⟨_,hrow⟩
theorem A73 (hE:B4 P E)(hs:Sim X σ a w G){o:Oper}{t:TypeId}{x y:Operand}(ho:o.op= .store t x y)(h:A05 E X.deep o t x y σ=some (true,σ')):B1 P X o σ' a w:=by
 unfold A05 at h
 split at h
 ·rename_i ti r i c z hti hx hy
  cases hl:Nat.beq z.leaves.length ti.size<;>simp only[hl,zB,zA]at h
  ·cases h
  have hlen:=zN hl
  have ht:=hE.ty t ti hti
  obtain⟨j,_,hj,hsz,_⟩:=ht.info
  obtain⟨h1,h2⟩:=hs.ev1 hx (by simp)
  obtain⟨_,k2,k3⟩:=hs.evT hy
  have hcl:(a.eval y).cells.toList.length=ti.size:=by rw[←k2.length,hlen]
  have hrun:∀{b off:Nat} {w':World},a.eval x= .pointer (some ⟨b,off,none⟩)→(storeCells ⟨b,off,none⟩ (a.eval y).cells.toList 0).run P w= .ok () w'→(execOp a.eval o).run P w= .ok .skip w':=by
   intro b off w' e hst
   have:(a.eval y).cells.size=j.size:=by rw[hsz,←hcl,zI1]
   simp[execOp,ho,Instr.storeAt,e,Instr.sureAddr,storeVar,run_sizeOf hj,this,hst]
  have fin:∀{τ:St} {w':World} {G':Gh},(execOp a.eval o).run P w= .ok .skip w'→Sim X τ a w' G'→B1 P X o (τ.put o.dst A1) a w:=by
   intro τ w' G' hr hs'
   exact⟨undef,w',G',.inr ⟨hr,rfl⟩,hs'.put S8.undef (by simp[AV.refs,AV.leaves,A1,TV.leaves,A0.refs])⟩
  split at h
  · -- a variable
   rename_i f ls hr
   split at h
   ·cases hb:Nat.ble (c+ti.size) ls.length<;>simp only[hb,zB,zA]at h
    ·cases h
    have hle:=Nat.ble_true hb
    cases hnz:A4y z<;>simp only[hnz,zB,zA]at h
    case true=>
     have hz:z= .one .nil:=by
      unfold A4y at hnz
      split at hnz
      ·rfl
      ·cases hnz
     subst hz
     obtain⟨g,hg,h⟩:=oB h
     obtain⟨τ,hτ,h⟩:=oB h
     simp only[okS]at h
     obtain⟨_,rfl⟩:=zQ (oI h)
     obtain⟨G1,hs1,g2,g3,g4,_⟩:=hs.addRows (by simp) hτ
     obtain⟨_,g5,g6⟩:=g2 _ (zM ..)
     obtain⟨b,w',G',e1,e2,e3⟩:=A2l (P:=P) hs1 (zl:=[.ow (A3e x)]) (x:=x) (c:=c) (vs:=(a.eval y).cells.toList) (g4 _ _ h2 h1) (g3 _ _ hr).1 (by
       generalize (a.eval y).cells.toList=vs at k2
       cases k2 with
       |cons k2 k2'=>
        cases k2'
        have k2:_=Value.slice none 0 0:=k2
        subst k2
        exact .cons ⟨rfl,fun _ _ _=>g6.symm⟩ .nil) (by
       intro l hl q hq
       simp only[zF1]at hl;subst hl
       simp only[A0.refs,zF1]at hq;subst hq
       exact⟨_,g5⟩) (by rw[hcl];exact hle)
     exact fin (hrun e1 e2) e3
    case false=>
     simp only[okS]at h
     obtain⟨_,rfl⟩:=zQ (oI h)
     obtain⟨b,w',G',e1,e2,e3⟩:=A2l (P:=P) hs h1 hr k2 (fun l hl q hq=>k3 q (by simp only[zB1];exact⟨l,hl,hq⟩)) (by rw[hcl];exact hle)
     exact fin (hrun e1 e2) e3
   ·cases h
  · -- an element
   rename_i f xs hr
   obtain⟨⟨y',used,rest⟩,hp,h⟩:=oB h
   dsimp only at h
   split at h
   ·cases hd:distinct used<;>simp only[hd,zB,zA]at h
    ·cases h
    cases hm:E6 r used<;>simp only[hm,zB,zA]at h
    ·simp only[okS]at h
     obtain⟨_,rfl⟩:=zQ (oI h)
     have hru:r∉used:=fun h=>by rw[D6.mpr h]at hm;cases hm
     obtain⟨hi,b,n,cap,hv,e⟩:=h1.2.1 f xs (St.dat_of hr)
     rcases hs.row r _ hr with⟨rfl,_⟩|⟨b',cap',arr,et,fr,ow,d1,d2,d3,d4,d5,d6,d7⟩
     ·simp at hi
     rw[hv]at d1;simp at d1;obtain⟨rfl,rfl,rfl⟩:=d1
     have hel:=d7 i _ (R9 (d:=f.zero) hi)
     have hES:∀i' q,C0 X σ w.heap G r b i' ow q→q≠b:=by
      rintro i' q hq rfl
      unfold C0 at hq
      split at hq
      ·exact hq.2.1 rfl
      ·exact hq.2.2 r d3 ⟨_,hr,by simp⟩
     obtain⟨w1,w2,hw,m1,m2,m3,m4,m5,m6,m7⟩:=A46 hs hp k2 hd hel fun q hq hdp r' hr' e'=>by
      unfold C0 at hq
      rw[if_pos hdp]at hq
      rw[hq.1]at e';obtain rfl:=oI e'
      exact hru hr'
     cases m1
     rw[zH1]at hw
     subst hw
     have hpos:0<ti.size:=by rw[ht.size];exact Kd.size_pos _
     have hcs:c+(a.eval y).cells.toList.length≤f.size:=by
      rcases m2 with h|h
      ·rw[h]at hcl;simp at hcl;omega
      ·exact h
     have hin:(i+1)*f.size≤arr.size:=by rw[d5];exact Nat.mul_le_mul_right _ (by omega)
     rw[zD1,Nat.one_mul]at hin
     obtain⟨w',arr',s1,s2,s3,s4,s5,s6,s7,s8,s9⟩:=G9 (P:=P) (off:=i*f.size+c) (a.eval y).cells.toList 0 w arr d4 d6.1 (by omega) k2.ones
     rw[Nat.add_zero]at s4
     have hs0:=hs.dropPa r
     have hr0:(σ.map (Ev.dropPa r)).look r=some (.data f xs):=by rw[St.look_map,hr];rfl
     have hu0:∀q∈used,∃g zs,(σ.map (Ev.dropPa r)).look q=some (.data g zs):=by
      intro q hq
      obtain⟨g,zs,h⟩:=m5 q hq
      exact⟨g,zs,by rw[St.look_map,h];rfl⟩
     have hI0:∀q,Imm X σ w.heap G q→Imm X (σ.map (Ev.dropPa r)) w.heap G q:=fun q hq=>((A5z (ks:=[])).imm q hq).1
     have hq:∀q,G.rt q≠some r→w'.heap[q]?=w.heap[q]?:=fun q hq=>s5 q fun e=>hq (by rw[e];exact d3)
     have hOS:∀q,U6 X σ w.heap G used q→q≠b:=by
      rintro q hq rfl
      rcases hq with⟨r',hr',e'⟩|⟨_,hi⟩
      ·rw[d3]at e';obtain rfl:=oI e';exact hru hr'
      ·exact hi.2.2 r d3 ⟨_,hr,by simp⟩
     have hseglen:=hel.len
     refine fin (hrun e s1) (hs0.reRow (used:=used) (own:=if X.deep=true then used else []) hu0 hr0 (by simp) hru ⟨rfl,by simp⟩ (.inl (M2 r)) s6 s7 s8 s9 hq ?_ (fun _ _ h=>by cases h))
     have hES2:∀i' q,C0 X σ w.heap G r b i' ow q→C0 X (((σ.map (Ev.dropPa r)).kill used).setRow r (.data f (xs.set i y'))) w'.heap (G.take w w' (r::used) (r::if X.deep=true then used else []) r (G.hv r)) r b i'
       (fun q=>match G.rt q with|some r'=>if r'∈used then i else ow q|none=>0) q:=by
      intro i' q hq
      have hqb:=hES i' q hq
      unfold C0 at hq⊢
      split at hq
      ·rename_i hdp
       rw[if_pos hdp]
       refine⟨by rw[Gh.take_rt (hs.lt q r hq.1) hq.1];simp,hqb,?_⟩
       simp only[hq.1,if_neg hru];exact hq.2.2
      ·rename_i hdp
       rw[if_neg hdp]
       exact A9k hu0 hr0 (by simp) s6 (hI0 q hq)
     refine .inr ⟨b,cap,arr',et,fr,fun q=>match G.rt q with|some r'=>if r'∈used then i else ow q|none=>0,by rw[Gh.take_hv,List.length_set];exact hv,by rw[List.length_set];exact d2,
      by rw[Gh.take_rt (hs.lt b r d3) d3];simp,s2,by rw[s3];exact d5,by rw[s3];exact d6,fun j z hz=>?_⟩
     by_cases hji:j=i
     ·subst hji
      rw[List.getElem?_set_self hi]at hz
      obtain rfl:=oI hz
      rw[A7t hcs hseglen s4]
      refine(A2.congr (fun q hq=>?_) m4).mono fun q hq=>?_
      ·rcases hq with hq|hq
       ·exact s5 q (hES _ q hq)
       ·exact s5 q (hOS q hq)
      ·rcases hq with hq|hq
       ·exact hES2 _ q hq
       ·have hqb:=hOS q hq
        unfold C0
        split
        ·rename_i hdp
         rcases hq with⟨r',hr',e'⟩|⟨hf,_⟩
         ·refine⟨by rw[Gh.take_rt (hs.lt q r' e') e',if_pos (zF _ hr'),if_pos (zF _ hr')],hqb,?_⟩
          simp only[e',if_pos hr']
         ·rw[hdp]at hf;cases hf
        ·rename_i hdp
         rcases hq with⟨r',hr',e'⟩|⟨_,hi⟩
         ·have hlt:=hs.lt q r' e'
          obtain⟨g,zs,hz⟩:=m5 r' hr'
          refine⟨by omega,?_,fun r2 hr2=>?_⟩
          ·by_cases hh:X.w0.heap.size≤q
           ·exact .inr (.inr hh)
           ·exact .inr (.inl (hs.ownA q r' e' ⟨_,hz,by simp⟩ (by omega)))
          ·rw[Gh.take_rt hlt e',if_pos (zF _ hr'),if_neg (by simp;rintro rfl;exact hru hr')]at hr2;cases hr2
         ·exact A9k hu0 hr0 (by simp) s6 (hI0 q hi)
     ·rw[List.getElem?_set_ne (by omega)]at hz
      have hj:=(List.getElem?_eq_some_iff.mp hz).1
      have e1:seg arr' (j*f.size) f.size=seg arr (j*f.size) f.size:=B8 fun q hq=>by
       rw[s4,if_neg]
       rcases zE1 j i with h|h
       ·have:=D7 (n:=i) h hq;omega
       ·have:(i+1)*f.size≤j*f.size:=Nat.mul_le_mul_right _ (by omega)
        rw[zD1,Nat.one_mul]at this;omega
      rw[e1]
      exact(A2.congr (fun q hq=>s5 q (hES _ q hq)) (d7 j z hz)).mono (hES2 j)
    ·cases h
   ·cases h
  · -- a cell whose slice was taken out
   rename_i f xs i0 c0 n0 hr
   cases z with
   |agg ls=>cases h
   |one l=>
    cases l<;>try (cases h;done)
    rename_i k _hT
    dsimp only at h
    split at h
    ·rename_i g zs hk
     cases hnk:Nat.beq n0 k<;>simp only[hnk,zB,zA]at h
     case true=>cases h
     obtain⟨x',hx',h⟩:=oB h
     obtain⟨hcond,rfl⟩:=zQ (oI h)
     simp only[zJ]at hcond
     have hc0:=zN hcond.1
     have hi0:=zN hcond.2
     subst hc0;subst hi0
     obtain⟨hi,b,n,cap,hv,e⟩:=h1.2.1 f xs (St.dat_hol hr)
     obtain⟨g1,g2,g3,_,b',cap',arr,et,fr,ow,d1,d2,d3,d4,d5,d6,d7,d8⟩:=hs.row r _ hr
     rw[hv]at d1;simp at d1;obtain⟨rfl,rfl,rfl⟩:=d1
     have hkr:r≠k:=by rintro rfl;rw[hr]at hk;cases hk
     have hlen1:(a.eval y).cells.toList.length=1:=by rw[←k2.length];rfl
     have h1':ti.size=1:=by rw[←hcl,hlen1]
     obtain⟨u,hu⟩:∃u,(a.eval y).cells.toList=[u]:=by
      match(a.eval y).cells.toList,hlen1 with
      |[u],_=>exact⟨u,rfl⟩
     rw[hu]at k2
     obtain⟨v1,v2,hv12,m1,m2,m3,_,_⟩:=T9 hs (f:= .sl g) (ls:=[.ow k]) (x:=zs) (used:=[k]) (rest:=[]) (vs:=[u]) (by
      have:look k σ.rows=some (.data g zs):=hk
      simp[A4,A3s,this,L7]) k2 rfl
     cases m1
     rw[zH1]at hv12
     subst hv12
     rw[g1]at m2
     have hES:∀i' q,C0 X σ w.heap G r b i' ow q→q≠b∧G.rt q=some r∧ow q=i':=by
      intro i' q hq
      unfold C0 at hq
      rw[if_pos g1]at hq
      exact⟨hq.2.1,hq.1,hq.2.2⟩
     have hOS:∀q,U6 X σ w.heap G [k] q→G.rt q=some k:=by
      intro q hq
      rcases hq with⟨r',hr',e'⟩|⟨hf,_⟩
      ·simp at hr';subst hr';exact e'
      ·rw[g1]at hf;cases hf
     have hOSb:∀q,U6 X σ w.heap G [k] q→q≠b:=by
      rintro q hq rfl
      have:=hOS q hq
      rw[d3]at this;exact hkr (oI this)
     have hin:(i+1)*f.size≤arr.size:=by rw[d5];exact Nat.mul_le_mul_right _ (by omega)
     rw[zD1,Nat.one_mul]at hin
     obtain⟨w',arr',s1,s2,s3,s4,s5,s6,s7,s8,s9⟩:=G9 (P:=P) (off:=i*f.size+c) (a.eval y).cells.toList 0 w arr d4 d6.1 (by rw[hu];simp;omega) (by rw[hu];exact k2.ones)
     rw[Nat.add_zero]at s4
     rw[hu]at s4
     have hs0:=hs.dropPa r
     have hr0:(σ.map (Ev.dropPa r)).look r=some (.hol f xs i c n0):=by rw[St.look_map,hr];rfl
     have hu0:∀q∈[k],∃g zs,(σ.map (Ev.dropPa r)).look q=some (.data g zs):=by
      intro q hq
      simp at hq;subst hq
      exact⟨g,zs,by rw[St.look_map,hk];rfl⟩
     have hq:∀q,G.rt q≠some r→w'.heap[q]?=w.heap[q]?:=fun q hq=>s5 q fun e=>hq (by rw[e];exact d3)
     refine fin (hrun e s1) (hs0.reRow (used:=[k]) (own:=[k]) hu0 hr0 (by simp) (by simpa using hkr) ⟨rfl,by simp⟩ (.inl (M2 r)) s6 s7 s8 s9 hq ?_ (fun _ _ h=>by cases h))
     have hseglen:(seg arr (i*f.size) f.size).length=f.size:=by simp[seg];omega
     have htr:∀q,G.rt q=some r→(G.take w w' [r,k] [r,k] r (G.hv r)).rt q=some r:=fun q hq=>by rw[Gh.take_rt (hs.lt q r hq) hq];simp
     have htk:∀q,G.rt q=some k→(G.take w w' [r,k] [r,k] r (G.hv r)).rt q=some r:=fun q hq=>by rw[Gh.take_rt (hs.lt q k hq) hq];simp
     have hES2:∀i' q,C0 X σ w.heap G r b i' ow q→C0 X (((σ.map (Ev.dropPa r)).kill [k]).setRow r (.data f (xs.set i x'))) w'.heap (G.take w w' [r,k] [r,k] r (G.hv r)) r b i'
       (fun q=>match G.rt q with|some r'=>if r'=k then i else ow q|none=>0) q:=by
      intro i' q hq
      obtain⟨p1,p2,p3⟩:=hES i' q hq
      unfold C0
      rw[if_pos g1]
      refine⟨htr q p2,p1,?_⟩
      simp only[p2,if_neg hkr];exact p3
     refine .inr ⟨b,cap,arr',et,fr,fun q=>match G.rt q with|some r'=>if r'=k then i else ow q|none=>0,by rw[Gh.take_hv,List.length_set];exact hv,by rw[List.length_set];exact d2,
      htr b d3,s2,by rw[s3];exact d5,by rw[s3];exact d6,fun j z hz=>?_⟩
     rw[g1]
     by_cases hji:j=i
     ·subst hji
      rw[List.getElem?_set_self hi]at hz
      obtain rfl:=oI hz
      have hho:=(d7 j _ (R9 (d:=f.zero) hi)).2 rfl
      have e1:seg arr' (j*f.size) f.size=(seg arr (j*f.size) f.size).set c u:=by
       rw[A7t (vs:=[u]) (by simp;omega) hseglen s4,List.set_eq_take_append_cons_drop,if_pos (by omega)]
       simp
      rw[e1]
      refine(C6.fill (C6.congr (fun q hq=>s5 q (hES _ q hq).1) hho) (A2.congr (fun q hq=>s5 q (hOSb q hq)) m2) (fun q hq hc=>?_) hx').mono fun q hq=>?_
      ·have:=(hES _ q hc).2.1
       rw[hOS q hq]at this;exact hkr (oI this).symm
      ·rcases hq with hq|hq
       ·exact hES2 _ q hq
       ·unfold C0
        rw[if_pos g1]
        refine⟨htk q (hOS q hq),hOSb q hq,?_⟩
        simp[hOS q hq]
     ·rw[List.getElem?_set_ne (by omega)]at hz
      have hj:=(List.getElem?_eq_some_iff.mp hz).1
      have e1:seg arr' (j*f.size) f.size=seg arr (j*f.size) f.size:=B8 fun q hq=>by
       rw[s4,if_neg]
       rcases zE1 j i with h|h
       ·have:=D7 (n:=i) h hq;omega
       ·have:(i+1)*f.size≤j*f.size:=Nat.mul_le_mul_right _ (by omega)
        rw[zD1,Nat.one_mul]at this;simp;omega
      rw[e1]
      exact(A2.congr (fun q hq=>s5 q (hES _ q hq).1) ((d7 j z hz).1 hji)).mono (hES2 j)
    ·cases h
  ·cases h
 ·cases h
theorem A42 (hs:Sim X σ a w G){R:A0→Value→Prop}(hR:∀l v,A5 X σ w.heap G l v→(∀r∈l.refs,∃row,σ.look r=some row)→R l v){offs:List (Nat×Nat)}:
  ∀{parts:List (Nat×Operand)} {ls ls':List A0} {cells:Array Value},K6 σ offs parts ls=some ls'→A7 R ls cells.toList→
  ∃cells',Instr.fill (fun x=>offs[x]?) cells (parts.map fun q=>(q.1,a.eval q.2))=some cells'∧A7 R ls' cells'.toList:=by
 intro parts
 induction parts with
 |nil=>
  intro ls ls' cells h hl
  simp only[K6,zO]at h
  subst h
  exact⟨cells,rfl,hl⟩
 |cons p parts ih=>
  obtain⟨i,x⟩:=p
  intro ls ls' cells h hl
  simp only[K6]at h
  split at h
  ·rename_i y c hy hc
   cases hb:Nat.beq y.leaves.length c.2&&Nat.ble (c.1+c.2) ls.length<;>simp only[hb,zB,zA]at h
   ·cases h
   simp only[zJ]at hb
   have h1:=zN hb.1
   have h2:=Nat.ble_true hb.2
   obtain⟨_,k2,k3⟩:=hs.evT hy
   have hcl:(a.eval x).cells.size=c.2:=by rw[←zI1,←k2.length,h1]
   have hsz:cells.size=ls.length:=by rw[hl.length,zI1]
   obtain⟨f1,f2⟩:=A5s (a.eval x) c.1 cells (by omega)
   generalize hcs:(a.eval x).cells.zipIdx.foldl (fun cs (p:Value×Nat)=>cs.setIfInBounds (c.1+p.2) p.1) cells=cs1 at f1 f2
   have hlist:cs1.toList=cells.toList.take c.1++(a.eval x).cells.toList++cells.toList.drop (c.1+(a.eval x).cells.toList.length):=by
    refine A68 (by rw[zI1];omega) fun j=>?_
    rw[f2 j,zI1,Array.getElem?_toList]
   obtain⟨cells',g1,g2⟩:=ih (ls:=putAt ls c.1 y.leaves) (cells:=cs1) h (by
    rw[hlist,zI1,hcl,←h1]
    unfold putAt
    refine((hl.take _).append (k2.monoMem fun l hm v hv=>hR l v hv fun r hr=>k3 r ?_)).append (hl.drop _)
    simp only[zB1];exact⟨l,hm,hr⟩)
   refine⟨cells',?_,g2⟩
   simp only[List.map_cons,Instr.fill,hc]
   rw[if_neg (by simp[hcl];omega),hcs]
   exact g1
  ·cases h
theorem A84 {k:Nat}{l:List Nat}(h:k∈l):E6 k l=true:=D6.mpr h
theorem A6z (hE:B4 P E)(hs:Sim X σ a w G){o:Oper}{t:TypeId}{ps:Array (Nat×Operand)}(ho:o.op= .build t ps)(h:A02 E o t ps σ=some (true,σ')):B1 P X o σ' a w:=by
 unfold A02 at h
 obtain⟨i,hi,h⟩:=oB h
 obtain⟨ls,hls,h⟩:=oB h
 cases hag:i.agg<;>simp only[hag,zB,zA]at h
 ·cases h
 obtain⟨τ,h1,h2⟩:=oB h
 simp only[okS]at h2
 obtain⟨_,rfl⟩:=zQ (oI h2)
 have ht:=hE.ty t i hi
 obtain⟨j,z,hj,hsz,hz,hzc⟩:=ht.info
 obtain⟨d,hd,hok⟩:=ht.desc
 cases d<;>simp only[U7]at hok
 case bool=>rw[hag]at hok;exact absurd hok.2.1 (by simp)
 case int=>rw[hag]at hok;exact absurd hok.2.1 (by simp)
 case string=>rw[hag]at hok;exact absurd hok.2.1 (by simp)
 case slice=>obtain⟨_,_,⟨h,_⟩,_⟩:=hok;rw[hag]at h;cases h
 case struct fs=>
  obtain⟨_,hoffs,hfs⟩:=hok
  let R:A0→Value→Prop:=fun l v=>(A5 X σ w.heap G l v∧∀r∈l.refs,∃row,σ.look r=some row)∨∃k g,l= .ow k∧(k,A6.data g [])∈B7 o.dst i.kd 0∧v= .slice none 0 0
  have hz0:A7 R (B6 o.dst i.kd 0) z.cells.toList:=by
   rw[hzc]
   exact L6 o.dst i.kd 0 (fun _ _ _=> .inl ⟨rfl,by simp[A0.refs]⟩) (.inl ⟨rfl,by simp[A0.refs]⟩) (.inl ⟨rfl,by simp[A0.refs]⟩) fun k g hk=> .inr ⟨k,g,rfl,hk,rfl⟩
  obtain⟨cells',g1,g2⟩:=A42 hs (R:=R) (fun l v h1 h2=> .inl ⟨h1,h2⟩) hls hz0
  have hzr:∀p∈A1j ls (B7 o.dst i.kd 0),∃f,p.2= .data f []:=fun p hp=>M7 _ _ _ p (List.mem_filter.mp hp).1
  obtain⟨G',k1,k2,k3,k4,k5⟩:=hs.addRows hzr h1
  have hmem:∀l∈ls,∀k g,l= .ow k→(k,A6.data g [])∈B7 o.dst i.kd 0→(k,A6.data g [])∈A1j ls (B7 o.dst i.kd 0):=by
   intro l hl k g e hk
   unfold A1j
   refine List.mem_filter.mpr ⟨hk,A84 ?_⟩
   simp only[zB1]
   exact⟨l,hl,by rw[e];simp[A0.refs]⟩
  have hfin:A7 (A5 X τ w.heap G') ls cells'.toList:=g2.monoMem fun l hl v hv=>by
   rcases hv with⟨h1,h2⟩|⟨k,g,rfl,hk,rfl⟩
   ·exact k4 l v h2 h1
   ·obtain⟨_,m2,m3⟩:=k2 _ (hmem _ hl k g rfl hk)
    exact⟨rfl,fun f xs _=>m3.symm⟩
  have hrefs:∀l∈ls,∀r∈l.refs,∃row,τ.look r=some row:=by
   intro l hl r hr
   obtain⟨n,hn⟩:=List.getElem?_of_mem hl
   obtain⟨v,_,hv⟩:=g2.get hn
   rcases hv with⟨_,h2⟩|⟨k,g,rfl,hk,rfl⟩
   ·obtain⟨row,hrow⟩:=h2 r hr
    exact⟨row,(k3 r row hrow).1⟩
   ·simp[A0.refs]at hr;subst hr
    exact⟨_,(k2 _ (hmem _ hl r g rfl hk)).2.1⟩
  have hbuilt:P.built t (ps.map fun q=>(q.1,a.eval q.2)).toList=some cells':=by
   have hpl:fs.toList.mapM (fun f=>(P.info? f.type).map fun i=>(f.offset,i.size))=some i.offs:=by
    rw[hoffs]
    have:∀l:List Field,(∀f∈l,∃j,P.info? f.type=some j∧j.size≠0)→l.mapM (fun f=>(P.info? f.type).map fun i=>(f.offset,i.size))=some (l.map fun f=>(f.offset,P.cellsOf f.type)):=by
     intro l
     induction l with
     |nil=>intro _;rfl
     |cons f l ih=>
      intro h
      obtain⟨j,hj,_⟩:=h f (zM ..)
      rw[List.mapM_cons,ih fun f hf=>h f (zF _ hf),hj]
      simp[Program.cellsOf,hj]
    exact this _ hfs
   unfold Program.built
   rw[hj,hd]
   simp only[hz,hpl,Array.toList_map]
   rw[←g1]
   congr 1
   funext x
   simp
  refine⟨.agg cells',w,G',.inl ?_,k1.put ⟨cells'.toList,rfl,hfin⟩ ?_⟩
  ·simp only[execOp,ho]
   simp[run_build w t _ cells' hbuilt]
  ·intro r hr
   obtain⟨l,hl,hr⟩:=zB1.mp hr
   exact hrefs l hl r hr
theorem P1:∀(f:Kd),∀v∈B3 f,v.oneCell'=true
 | .int _,v,h=>by simp[B3]at h;subst h;rfl
 | .bool,v,h=>by simp[B3]at h;subst h;rfl
 | .str,v,h=>by simp[B3]at h;subst h;rfl
 | .sl _,v,h=>by simp[B3]at h;subst h;rfl
 | .pair a b,v,h=>by
  simp only[B3,zY]at h
  rcases h with h|h
  ·exact P1 a v h
  ·exact P1 b v h
theorem A70 (hE:B4 P E)(hs:Sim X σ a w G){o:Oper}{c:Call}{x:Operand}{t:TypeId}{ts:List TypeId}(ho:o.op= .call c)(hc:c.callee= .builtin .clear)(hargs:c.args.toList=[x])
  (hts:c.argTypes.toList=t::ts) (h:A53 E o t x σ=some (true,σ')):B1 P X o σ' a w:=by
 have hargs':=A7g hargs
 have ht:=V4 hts
 unfold A53 at h
 split at h
 ·rename_i e r off len hel hx
  split at h
  ·rename_i f xs hr
   cases hfl:decide (e.1=f)&&f.flat<;>simp only[hfl,zB,zA]at h
   ·cases h
   simp only[zJ,zG]at hfl
   obtain⟨he,hflat⟩:=hfl
   obtain⟨g,eb⟩:=e
   dsimp only at he
   subst he
   simp only[okS]at h
   obtain⟨_,rfl⟩:=zQ (oI h)
   obtain⟨et,hut,j,z,hj,hsz,hby,hz,hzc⟩:=hE.el hel
   have hz2:∀w2:World,(zeroValue et).run P w2= .ok z w2:=fun w2=>by simp[zeroValue,run_typeInfo hj,hz]
   have hzs:z.cells.size=g.size:=by rw[←zI1,hzc,E4]
   obtain⟨h1,_⟩:=hs.ev1 hx (by simp)
   obtain⟨hle,hv,_⟩:=h1.2 g xs (St.dat_of hr)
   have hs0:=hs.dropPa r
   have hr0:(σ.map (Ev.dropPa r)).look r=some (.data g xs):=by rw[St.look_map,hr];rfl
   have hxl:(xs.take off++List.replicate len g.zero++xs.drop (off+len)).length=xs.length:=by simp;omega
   have hget:∀i y,(xs.take off++List.replicate len g.zero++xs.drop (off+len))[i]?=some y→(¬(off≤i∧i<off+len)∧xs[i]?=some y)∨(off≤i∧i<off+len∧y=g.zero):=by
    intro i y hy
    have l1:(xs.take off).length=off:=by simp;omega
    by_cases c1:i<off
    ·rw[List.append_assoc,List.getElem?_append_left (by omega),List.getElem?_take,if_pos c1]at hy
     exact .inl ⟨by omega,hy⟩
    ·by_cases c2:i<off+len
     ·rw[List.getElem?_append_left (by simp;omega),List.getElem?_append_right (by omega)]at hy
      rw[List.getElem?_replicate]at hy
      split at hy
      ·exact .inr ⟨by omega,c2,(oI hy).symm⟩
      ·cases hy
     ·rw[List.getElem?_append_right (by simp;omega),List.getElem?_drop]at hy
      refine .inl ⟨by omega,?_⟩
      rw[←hy];congr 1;simp;omega
   have fin:∀{w':World} {G':Gh},(∀ty,(Builtin.clear_ c.argTypes ty #[a.eval x]).run P w= .ok (.tuple #[]) w')→Sim X ((σ.map (Ev.dropPa r)).setRow r (.data g (xs.take off++List.replicate len g.zero++xs.drop (off+len)))) a w' G'→B1 P X o (((σ.map (Ev.dropPa r)).setRow r (.data g (xs.take off++List.replicate len g.zero++xs.drop (off+len)))).put o.dst A1) a w:=by
    intro w' G' hrun hs'
    exact⟨.tuple #[],w',G',.inl (by simp[execOp,ho,resolve,hc,hargs',invoke,builtin,hrun]),hs'.put (Or.inl rfl) (by simp[AV.refs,AV.leaves,A1,TV.leaves,A0.refs])⟩
   have emp:(∃p q,a.eval x= .slice p 0 q)→∀ty,(Builtin.clear_ c.argTypes ty #[a.eval x]).run P w= .ok (.tuple #[]) w:=by
    rintro⟨p,q,e⟩ ty
    rw[e]
    cases p<;>simp[Builtin.clear_,ht,underlying,hut]
   rcases hs.row r _ hr with⟨rfl,d1⟩|⟨b,cap,arr,ety,fr,ow,d1,d2,d3,d4,d5,d6,d7⟩
   ·obtain⟨rfl,rfl⟩:off=0∧len=0:=by simp at hle;omega
    have hv0:∃p q,a.eval x= .slice p 0 q:=by
     rcases hv with⟨_,p,q,e⟩|⟨b,n,cap,c',q1,_⟩
     ·exact⟨p,q,e⟩
     ·rw[d1]at q1;simp at q1
    refine fin (emp hv0) (hs0.reRow (w':=w) (used:=[]) (own:=[]) (by simp) hr0 (by simp) (by simp) ⟨rfl,by simp⟩ (.inl (M2 r)) rfl rfl rfl rfl (fun _ _=>rfl) (.inl ⟨by simp,by rw[Gh.take_hv];exact d1⟩) (fun _ _ h=>by cases h))
   ·by_cases h0:len=0
    ·subst h0
     have hv0:∃p q,a.eval x= .slice p 0 q:=by
      rcases hv with⟨_,p,q,e⟩|⟨b,n,cap,c',_,q2,_⟩
      ·exact⟨p,q,e⟩
      ·exact⟨_,_,q2⟩
     refine fin (emp hv0) (hs0.reRow (w':=w) (used:=[]) (own:=[]) (by simp) hr0 (by simp) (by simp) ⟨rfl,by simpa using hxl.symm⟩ (.inl (M2 r)) rfl rfl rfl rfl (fun _ _=>rfl) (.inr ⟨b,cap,arr,ety,fr,ow,by rw[Gh.take_hv,hxl];exact d1,by rw[hxl];exact d2,by rw[Gh.take_rt (hs.lt b r d3) d3];simp,d4,d5,d6,fun i y hy=>?_⟩) (fun _ _ h=>by cases h))
     rcases hget i y hy with⟨_,hy⟩|⟨_,_,_⟩
     ·exact A2.flatAny hflat (d7 i y hy)
     ·omega
    ·have hv2:∃c',a.eval x= .slice (some ⟨b,off*g.size,none⟩) len c':=by
      rcases hv with⟨h,_⟩|⟨b',n,cap',c',q1,q2,_⟩
      ·exact absurd h h0
      ·rw[d1]at q1;simp at q1;obtain⟨rfl,_⟩:=q1
       exact⟨c',q2⟩
     obtain⟨c',hv2⟩:=hv2
     have hvl:(Builtin.zeroCells z.cells len).toList.length=len*g.size:=by
      rw[zI1];simp[Builtin.zeroCells,hzs]
     have hin:(off+len)*g.size≤arr.size:=by rw[d5];exact Nat.mul_le_mul_right _ (by omega)
     rw[zD1]at hin
     have hzg:∀q,q<len*g.size→(Builtin.zeroCells z.cells len)[q]?=some (z.cells[q % z.cells.size]!):=by
      intro q hq
      simp[Builtin.zeroCells,hzs,hq]
     have hone:∀v∈(Builtin.zeroCells z.cells len).toList,v.oneCell'=true:=by
      intro v hv
      obtain⟨q,hq,rfl⟩:=List.getElem_of_mem hv
      have hq':q<len*g.size:=by rw[←hvl];exact hq
      have e1:=hzg q hq'
      rw[←Array.getElem?_toList,List.getElem?_eq_getElem hq]at e1
      rw[oI e1]
      have hlt:q % z.cells.size<z.cells.size:=Nat.mod_lt _ (by rw[hzs];exact g.size_pos)
      rw[getElem!_pos z.cells _ hlt]
      have hm:z.cells[q % z.cells.size]∈B3 g:=by rw[←hzc];exact Array.getElem_mem_toList hlt
      exact P1 g _ hm
     obtain⟨w',arr',s1,s2,s3,s4,s5,s6,s7,s8,s9⟩:=G9 (P:=P) (off:=off*g.size) (Builtin.zeroCells z.cells len).toList 0 w arr d4 d6.1 (by omega) hone
     rw[Nat.add_zero]at s4
     have hrun:∀ty,(Builtin.clear_ c.argTypes ty #[a.eval x]).run P w= .ok (.tuple #[]) w':=by
      intro ty
      rw[hv2]
      obtain⟨m,rfl⟩:∃m,len=m+1:=⟨len - 1,by omega⟩
      simp[Builtin.clear_,ht,underlying,hut,hz2,s1]
     have hq:∀q,G.rt q≠some r→w'.heap[q]?=w.heap[q]?:=fun q hq=>s5 q fun e=>hq (by rw[e];exact d3)
     refine fin hrun (hs0.reRow (used:=[]) (own:=[]) (by simp) hr0 (by simp) (by simp) ⟨rfl,by simpa using hxl.symm⟩ (.inl (M2 r)) s6 s7 s8 s9 hq (.inr ⟨b,cap,arr',ety,fr,ow,by rw[Gh.take_hv,hxl];exact d1,by rw[hxl];exact d2,by rw[Gh.take_rt (hs.lt b r d3) d3];simp,s2,by rw[s3];exact d5,by rw[s3];exact d6,fun i y hy=>?_⟩) (fun _ _ h=>by cases h))
     rcases hget i y hy with⟨hno,hy⟩|⟨i1,i2,rfl⟩
     ·have e1:seg arr' (i*g.size) g.size=seg arr (i*g.size) g.size:=B8 fun q hq=>by
       rw[s4,if_neg]
       rw[hvl]
       rcases zE1 i off with h|h
       ·have:=D7 (n:=off) h hq;omega
       ·have:(off+len)*g.size≤i*g.size:=Nat.mul_le_mul_right _ (by omega)
        rw[zD1]at this;omega
      rw[e1]
      exact A2.flatAny hflat (d7 i y hy)
     ·have e1:seg arr' (i*g.size) g.size=seg (Builtin.zeroCells z.cells len) ((i - off)*g.size) g.size:=B8 fun q hq=>by
       have b1:(i - off)*g.size+q<len*g.size:=by have:=D7 (n:=len) (show i - off<len by omega) hq;omega
       have b2:i*g.size=off*g.size+(i - off)*g.size:=by rw[←zD1];congr 1;omega
       rw[s4,if_pos (by rw[hvl];omega),←Array.getElem?_toList,show i*g.size+q - off*g.size=(i - off)*g.size+q by omega]
      rw[e1,A7w hzc (show i - off<len by omega) _ hzg]
      exact A1k g
  ·cases h
 ·cases h
theorem A6t (hE:B4 P E)(hQ:U2 P E)(hs:Sim X σ a w G){o:Oper}(h:R7 E X.deep o σ=some (true,σ')):B1 P X o σ' a w:=by
 unfold R7 at h
 split at h
 ·rename_i x ho;exact A4k hs (.inl ho) h
 ·rename_i x ho;exact A4k hs (.inr ho) h
 ·rename_i ho;exact A86 hs ho h
 ·rename_i ho;exact A6y hE hs ho h
 ·rename_i ho;exact A9e hE hs ho h
 ·rename_i ho;exact A6z hE hs ho h
 ·rename_i ho;exact A2o hE hs ho h
 ·rename_i ho;exact A85 hE hs ho h
 ·rename_i ho;exact A73 hE hs ho h
 ·rename_i ho;exact A45 hs ho h
 ·rename_i ho;exact A9c hE hQ hs ho h
 ·rename_i ho;exact B01 hs ho h
 ·rename_i ho;exact A54 hE hs ho h
 ·rename_i ho;exact A44 hs ho h
 ·rename_i ho;exact A3j hE hs ho h
 ·rename_i ho;exact A72 hE hs ho h
 ·rename_i ho;exact A3h hE hs ho h
 ·rename_i ho;exact A3i hE hs ho h
 ·rename_i ho;exact A71 hE hs ho h
 ·rename_i ho;exact A55 hs ho h
 ·rename_i c ho
  split at h
  ·rename_i t ts x hc hts hargs;exact A9f hE hs ho hc hargs hts h
  ·rename_i t u ts x y hc hts hargs;exact A64 hE hs ho hc hargs hts h
  ·rename_i x y hc hargs;exact A9g hs ho hc hargs h
  ·rename_i t ts x hc hts hargs;exact A70 hE hs ho hc hargs hts h
  ·cases h
 ·cases h
end
end Go.Proofs.YtalmhjlcjcnidaaGreat.Ev

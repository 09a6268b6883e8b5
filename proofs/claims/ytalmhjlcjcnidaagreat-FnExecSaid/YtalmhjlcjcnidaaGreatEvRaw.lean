/- slices.Delete and slices.Insert, whatever the elements: what their cells come to, as typed data that is owned. -/
import Derived.Test.YtalmhjlcjcnidaaGreatEvShape
import Derived.Lib.AppendZerosOnto
import Derived.Lib.Overlaps
import Derived.Laws.Externs
set_option linter.all false
namespace Go.Proofs.YtalmhjlcjcnidaaGreat.Ev
open Go
section
variable {P:Program} {w:World}
structure Wr (b:Nat) (w w':World):Prop where
 far:∀q,q≠b→w'.heap[q]?=w.heap[q]?
 size:w'.heap.size=w.heap.size
 os:w'.os=w.os
 tape:w'.tape=w.tape
 out:w'.output=w.output
theorem Wr.trans {b:Nat}{w1 w2 w3:World}(h1:Wr b w1 w2)(h2:Wr b w2 w3):Wr b w1 w3:=
 ⟨fun q hq=>(h2.far q hq).trans (h1.far q hq),h2.size.trans h1.size,h2.os.trans h1.os,h2.tape.trans h1.tape,h2.out.trans h1.out⟩
theorem seg_length {arr:Array Value}{o n:Nat}(h:o+n≤arr.size):(seg arr o n).length=n:=by simp[seg];omega
theorem A63 {f:Kd}{xs:List f.T}{arr:Array Value}{o:Bool}{h:Array Obj}{S:Nat→Nat→Prop}(hel:∀(t:Nat) (x:f.T),xs[t]?=some x→A2 o h f x (seg arr (t*f.size) f.size) (S t)){i m:Nat}(him:i+m≤xs.length)(hsz:(i+m)*f.size≤arr.size):
  ∀v∈seg arr (i*f.size) (m*f.size),v.oneCell'=true:=by
 have hl:((xs.drop i).take m).length=m:=by simp;omega
 rw[zD1]at hsz
 refine A4p (f:=f) (ys:=(xs.drop i).take m) (o:=o) (h:=h) (S:=fun t=>S (i+t)) (by rw[hl];exact seg_length hsz) fun t x hx=>?_
 have ht:t<m:=by rw[←hl];exact(List.getElem?_eq_some_iff.mp hx).1
 rw[List.getElem?_take,if_pos ht,List.getElem?_drop]at hx
 rw[A1g ht,←zD1]
 exact hel _ _ hx
theorem A1e {dT sT e:TypeId}{f:Kd}{eb:Nat}(hu:P.underlying dT=some (.slice e))(he:T5 P e f eb){bd od dl dc bs so sl sc m:Nat}{arrD arrS:Array Value}{eD eS:TypeId}{frD frS:Nat×Nat}
  (hd:w.heap[bd]?=some (.cells arrD eD frD)) (hnf:NF frD arrD.size) (hs:w.heap[bs]?=some (.cells arrS eS frS)) (hm:Nat.min sl dl=m) (hso:so+m*f.size≤arrS.size) (hdo:od+m*f.size≤arrD.size)
  (hone:∀v∈seg arrS so (m*f.size),v.oneCell'=true):
  ∃(w':World) (arr':Array Value),(∀ty,(Builtin.copy_ #[dT,sT] ty #[.slice (some ⟨bd,od,none⟩) dl dc,.slice (some ⟨bs,so,none⟩) sl sc]).run P w= .ok (.int .i64 m) w')∧w'.heap[bd]?=some (.cells arr' eD frD)∧arr'.size=arrD.size∧
   (∀j,arr'[j]?=if od≤j∧j<od+m*f.size then arrS[so+(j - od)]? else arrD[j]?)∧Wr bd w w':=by
 obtain⟨j,z,hj,hsz,hby,hz,hzc⟩:=he
 have hl:=seg_length hso
 obtain⟨w',arr',s1,s2,s3,s4,s5,s6,s7,s8,s9⟩:=G9 (P:=P) (off:=od) (seg arrS so (m*f.size)) 0 w arrD hd hnf (by rw[hl];omega) hone
 refine⟨w',arr',fun ty=>?_,s2,s3,fun q=>?_,⟨s5,s6,s7,s8,s9⟩⟩
 ·simp[Builtin.copy_,underlying,hu,Builtin.lenOf,Builtin.firstCells,run_sizeOf hj,hsz,hm,F7 hs hl,s1,goInt]
 ·rw[s4 q,hl,Nat.add_zero]
  by_cases h:od≤q∧q<od+m*f.size
  ·rw[if_pos h,if_pos h,C5 (by omega)]
  ·rw[if_neg h,if_neg h]
theorem A8e {dT e:TypeId}{f:Kd}{eb:Nat}(hu:P.underlying dT=some (.slice e))(he:T5 P e f eb){b o len c:Nat}{arr:Array Value}{ety:TypeId}{fr:Nat×Nat}
  (hd:w.heap[b]?=some (.cells arr ety fr)) (hnf:NF fr arr.size) (hlen:0<len) (ho:o+len*f.size≤arr.size):
  ∃(w':World) (arr':Array Value),(∀ty,(Builtin.clear_ #[dT] ty #[.slice (some ⟨b,o,none⟩) len c]).run P w= .ok (.tuple #[]) w')∧w'.heap[b]?=some (.cells arr' ety fr)∧arr'.size=arr.size∧
   (∀j,j<o→arr'[j]?=arr[j]?)∧Wr b w w':=by
 obtain⟨j,z,hj,hsz,hby,hz,hzc⟩:=he
 have hzs:z.cells.size=f.size:=by rw[←zI1,hzc,E4]
 have hz2:∀w2:World,(zeroValue e).run P w2= .ok z w2:=fun w2=>by simp[zeroValue,run_typeInfo hj,hz]
 have hvl:(Builtin.zeroCells z.cells len).toList.length=len*f.size:=by
  rw[zI1];simp[Builtin.zeroCells,hzs]
 have hzg:∀q,q<len*f.size→(Builtin.zeroCells z.cells len)[q]?=some (z.cells[q % z.cells.size]!):=by
  intro q hq
  simp[Builtin.zeroCells,hzs,hq]
 have hone:∀v∈(Builtin.zeroCells z.cells len).toList,v.oneCell'=true:=by
  intro v hv
  obtain⟨q,hq,rfl⟩:=List.getElem_of_mem hv
  have hq':q<len*f.size:=by rw[←hvl];exact hq
  have e1:=hzg q hq'
  rw[←Array.getElem?_toList,List.getElem?_eq_getElem hq]at e1
  rw[oI e1]
  have hlt:q % z.cells.size<z.cells.size:=Nat.mod_lt _ (by rw[hzs];exact f.size_pos)
  rw[getElem!_pos z.cells _ hlt]
  have hm:z.cells[q % z.cells.size]∈B3 f:=by rw[←hzc];exact Array.getElem_mem_toList hlt
  exact P1 f _ hm
 obtain⟨w',arr',s1,s2,s3,s4,s5,s6,s7,s8,s9⟩:=G9 (P:=P) (off:=o) (Builtin.zeroCells z.cells len).toList 0 w arr hd hnf (by omega) hone
 refine⟨w',arr',fun ty=>?_,s2,s3,fun q hq=>?_,⟨s5,s6,s7,s8,s9⟩⟩
 ·obtain⟨m,rfl⟩:∃m,len=m+1:=⟨len - 1,by omega⟩
  simp[Builtin.clear_,underlying,hu,hz2,s1]
 ·rw[s4 q,if_neg (by omega)]
theorem A66 {S:Nat→Prop}{ow0:Nat→Option Nat}{w':World}{f:Kd}{ys:List f.T}{v:Value}{T:Nat→Prop}(hos:w'.os=w.os)(htape:w'.tape=w.tape)(hout:w'.output=w.output)(hsize:w.heap.size≤w'.heap.size)
  (hframe:∀q,q<w.heap.size→ow0 q=none→w'.heap[q]?=w.heap[q]?) (hc:A2 true w'.heap (.sl f) ys [v] T) (hT:∀q,T q→q<w'.heap.size∧(w.heap.size≤q∨ow0 q≠none)):
  A1l S ow0 w w' false [] (.v (.one (.od f ys))) v:=by
 classical
 refine⟨hos,htape,hout,hsize,hframe,fun q=>if T q then some 0 else none,[v],v,fun q j hq=>?_,fun l hl=>?_,?_,rfl,.inl ⟨rfl,rfl⟩⟩
 ·dsimp only at hq
  split at hq
  ·exact hT q (by assumption)
  ·cases hq
 ·simp only[AV.leaves,TV.leaves,zF1]at hl
  subst hl;trivial
 ·refine .cons ?_ .nil
  exact hc.mono fun q hq=>if_pos hq
structure B1b (P:Program) (g S k:Nat):Prop where
 ent:∀args w,(callFunc g args).run P w= .ok (.enter g args) w
 walk:∀(w:World) (b cap n i j:Nat),i<j→j≤n→n≤cap→∀(Q:Ending→World→Prop) (A:Option Addr),(if cap=j then some (⟨b,0,none⟩:Addr)else some ⟨b,j*k,none⟩)=A→
  ∀W1:World,(∀ty,(Builtin.append_ #[S,S] ty #[.slice (some ⟨b,0,none⟩) i cap,.slice A (n - j) (cap - j)]).run P w.drew= .ok (.slice (some ⟨b,0,none⟩) (i+(n - j)) cap) W1)→
  ∀W2:World,(∀ty,(Builtin.clear_ #[S] ty #[.slice (some ⟨b,(i+(n - j))*k,none⟩) (n - (i+(n - j))) (cap - (i+(n - j)))]).run P W1= .ok (.tuple #[]) W2)→
  Q (.returned (.slice (some ⟨b,0,none⟩) (i+(n - j)) cap)) W2→Calls P g #[.slice (some ⟨b,0,none⟩) n cap,.int .i64 i,.int .i64 j] w Q
theorem B0m {g S e:Nat}{f:Kd}{eb:Nat}(D:B1b P g S f.size)(hu:P.underlying S=some (.slice e))(he:T5 P e f eb){xs:List f.T}{i j:Nat}(hij:i<j)(hj:j≤xs.length):
  N0 P [.give] false g [.one (.od f xs),.one (.int .i64 i),.one (.int .i64 j)] (.v (.one (.od f (xs.take i++xs.drop j)))):=by
 refine⟨D.ent,fun w vs S0 ow0 hS hlt hargs=>?_⟩
 obtain⟨us0,v0,vs0,rfl,ha0,hr0,hargs⟩:=hargs
 obtain⟨us1,v1,vs1,rfl,ha1,hr1,hargs⟩:=hargs
 obtain⟨us2,v2,vs2,rfl,ha2,hr2,hargs⟩:=hargs
 have hargs:vs2=[]:=hargs
 subst hargs
 have hr0:us0=[v0]:=hr0
 have hr1:us1=[v1]:=hr1
 have hr2:us2=[v2]:=hr2
 subst hr0;subst hr1;subst hr2
 cases ha0 with|cons h0 _=>cases ha1 with|cons h1 _=>cases ha2 with|cons h2 _=>
 have h1:v1= .int .i64 i:=h1
 have h2:v2= .int .i64 j:=h2
 subst h1;subst h2
 have h0:A2 true w.heap (.sl f) xs [v0] (fun q=>ow0 q=some (key (some 0) 0)):=h0
 generalize key (some 0) 0=k0 at h0
 have hpv:C8 [.give] 0 [.one (.od f xs),.one (.int .i64 i),.one (.int .i64 j)] [v0,.int .i64 i,.int .i64 j]=[]:=rfl
 rw[hpv]
 simp only[A2]at h0
 rcases h0 with⟨rfl,_⟩|⟨b,off,cap,arr,ety,fr,ow,e1,e2,e3,e4,e5,e6⟩
 ·simp at hj;omega
 obtain⟨rfl,e7,e8⟩:=e5 trivial
 simp only[List.cons.injEq,and_true]at e1
 subst e1
 have e6':∀(t:Nat) (x:f.T),xs[t]?=some x→A2 true w.heap f x (seg arr (t*f.size) f.size) (fun q=>ow0 q=some k0∧(true=true→q≠b∧ow q=t)):=fun t x hx=>by
  have:=e6 t x hx
  rw[zS]at this
  exact this.mono fun q hq=>⟨hq.1,fun _=>hq.2 trivial⟩
 have hin:∀t,t≤xs.length→t*f.size≤arr.size:=fun t ht=>by rw[e7];exact Nat.mul_le_mul_right _ (by omega)
 have hm:j+(xs.length - j)=xs.length:=by omega
 have hsrc:∀w2:World,w2.heap=w.drew.heap→(Builtin.lenOf (.slice (if cap=j then some (⟨b,0,none⟩:Addr)else some ⟨b,j*f.size,none⟩) (xs.length - j) (cap - j))).run P w2= .ok (xs.length - j) w2∧
   (Builtin.firstCells f.size (xs.length - j) (.slice (if cap=j then some (⟨b,0,none⟩:Addr)else some ⟨b,j*f.size,none⟩) (xs.length - j) (cap - j))).run P w2= .ok (seg arr (j*f.size) ((xs.length - j)*f.size)).toArray w2:=by
  intro w2 hw
  refine⟨rfl,?_⟩
  by_cases hcj:cap=j
  ·have h0:xs.length - j=0:=by omega
   rw[if_pos hcj,h0,Nat.zero_mul]
   simp[Builtin.firstCells,loadCells,loadCellsFrom,seg]
  ·rw[if_neg hcj]
   simp only[Builtin.firstCells]
   exact F7 (by rw[hw];exact e4) (seg_length (by rw[←zD1,hm];exact hin _ (Nat.le_refl _)))
 obtain⟨W1,arr1,a1,a2,a3,a4,a5,a6,a7,a8,a9⟩:=run_append_fits (P:=P) (w:=w.drew) hu he (.inl ⟨e,hu⟩) (ts:=#[S,S]) (ty:=0) rfl rfl (len:=i) (m:=xs.length - j) (cap:=cap) (by omega) (b:=b) e4 e8.1 e7 hsrc
  (seg_length (by rw[←zD1,hm];exact hin _ (Nat.le_refl _))) (A63 (S:=fun t q=>ow0 q=some k0∧(true=true→q≠b∧ow q=t)) e6' (by omega) (by rw[hm];exact hin _ (Nat.le_refl _)))
 have hap:∀ty,(Builtin.append_ #[S,S] ty #[.slice (some ⟨b,0,none⟩) i cap,.slice (if cap=j then some (⟨b,0,none⟩:Addr)else some ⟨b,j*f.size,none⟩) (xs.length - j) (cap - j)]).run P w.drew= .ok (.slice (some ⟨b,0,none⟩) (i+(xs.length - j)) cap) W1:=fun ty=>a1
 obtain⟨W2,arr2,b1,b2,b3,b4,b5⟩:=A8e (P:=P) (w:=W1) hu he (b:=b) (o:=(i+(xs.length - j))*f.size) (len:=xs.length - (i+(xs.length - j))) (c:=cap - (i+(xs.length - j))) a2 (by rw[a3];exact e8.1) (by omega) (by
  rw[a3,←zD1];exact hin _ (by omega))
 refine D.walk w b cap xs.length i j hij hj e2 _ _ rfl W1 hap W2 b1 ?_
 have hlen:(xs.take i++xs.drop j).length=i+(xs.length - j):=by simp;omega
 refine A66 (T:=fun q=>ow0 q=some k0) (b5.os.trans a7) (b5.tape.trans a8) (b5.out.trans a9) (by rw[b5.size,a6];exact Nat.le_refl _) (fun q hq hq0=>?_) ?_ (fun q hq=>⟨by rw[b5.size,a6];exact hlt q k0 hq,.inr (by rw[hq];simp)⟩)
 ·have hqb:q≠b:=by rintro rfl;rw[e3]at hq0;cases hq0
  rw[b5.far q hqb,a5 q hqb]
  rfl
 simp only[A2]
 refine .inr ⟨b,0,cap,arr2,ety,fr,fun q=>if ow q<i then ow q else ow q - (j - i),by rw[hlen],by rw[hlen];omega,e3,b2,fun _=>⟨rfl,by rw[b3,a3];exact e7,by rw[b3,a3];exact e8⟩,fun t x hx=>?_⟩
 have ht:t<i+(xs.length - j):=by rw[←hlen];exact(List.getElem?_eq_some_iff.mp hx).1
 have hfar:∀q,q≠b→W2.heap[q]?=w.heap[q]?:=fun q hq=>by rw[b5.far q hq,a5 q hq];rfl
 rw[zS]
 have hseg:seg arr2 (t*f.size) f.size=seg arr1 (t*f.size) f.size:=B8 fun q hq=>by
  have:=D7 ht hq
  rw[b4 _ this]
 rw[hseg]
 by_cases hti:t<i
 ·have hx':xs[t]?=some x:=by
   rw[List.getElem?_append_left (by simp;omega),List.getElem?_take,if_pos hti]at hx
   exact hx
  have hs2:seg arr1 (t*f.size) f.size=seg arr (t*f.size) f.size:=B8 fun q hq=>by
   have:=D7 hti hq
   rw[a4,if_neg (by omega)]
  rw[hs2]
  refine(A2.congr (fun q hq=>hfar q (hq.2 rfl).1) (e6' t x hx')).mono fun q hq=>⟨hq.1,fun _=>⟨(hq.2 rfl).1,?_⟩⟩
  have:=(hq.2 rfl).2
  dsimp only
  rw[if_pos (by omega)];exact this
 ·have hx':xs[t+(j - i)]?=some x:=by
   rw[List.getElem?_append_right (by simp;omega),List.getElem?_drop]at hx
   rw[←hx];congr 1;simp;omega
  have hs2:seg arr1 (t*f.size) f.size=seg arr ((t+(j - i))*f.size) f.size:=B8 fun q hq=>by
   have h1:=D7 ht hq
   rw[zD1]at h1
   have h2:i*f.size≤t*f.size:=Nat.mul_le_mul_right _ (by omega)
   have h3:(t - i)*f.size+q<(xs.length - j)*f.size:=D7 (by omega) hq
   have h4:t*f.size=i*f.size+(t - i)*f.size:=by rw[←zD1];congr 1;omega
   have h5:(t+(j - i))*f.size=j*f.size+(t - i)*f.size:=by rw[←zD1];congr 1;omega
   rw[a4,if_pos (by omega),C5 (by omega)]
   congr 1;omega
  rw[hs2]
  refine(A2.congr (fun q hq=>hfar q (hq.2 rfl).1) (e6' _ x hx')).mono fun q hq=>⟨hq.1,fun _=>⟨(hq.2 rfl).1,?_⟩⟩
  have:=(hq.2 rfl).2
  dsimp only
  rw[if_neg (by omega)];omega
theorem W6 {S0:Nat→Prop}{ow0:Nat→Option Nat}{W:World}{f:Kd}{xs:List f.T}{y:f.T}{i k0 k2 nb cap':Nat}{sg:Nat→List Value}{sy:List Value}{ow:Nat→Nat}{arr':Array Value}{ety':TypeId}{fr':Nat×Nat}
  (hk:k0≠k2) (hlt:∀q j,ow0 q=some j→q<w.heap.size) (hel:∀(t:Nat) (x:f.T),xs[t]?=some x→A2 true w.heap f x (sg t) (fun q=>ow0 q=some k0∧q≠nb∧ow q=t))
  (hy:A2 true w.heap f y sy (fun q=>ow0 q=some k2)) (hi:i≤xs.length) (hnb:ow0 nb=some k0∨w.heap.size≤nb) (hb:W.heap[nb]?=some (.cells arr' ety' fr')) (hcap:xs.length+1≤cap') (hsz:arr'.size=cap'*f.size)
  (hnk:NK f fr' arr'.size) (hfar:∀q,q<w.heap.size→q≠nb→W.heap[q]?=w.heap[q]?) (hos:W.os=w.os) (htape:W.tape=w.tape) (hout:W.output=w.output) (hsize:w.heap.size≤W.heap.size)
  (s1:∀t,t<i→seg arr' (t*f.size) f.size=sg t) (s2:seg arr' (i*f.size) f.size=sy) (s3:∀t,i≤t→t<xs.length→seg arr' ((t+1)*f.size) f.size=sg t):
  A1l S0 ow0 w W false [] (.v (.one (.od f (xs.take i++[y]++xs.drop i)))) (.slice (some ⟨nb,0,none⟩) (xs.length+1) cap'):=by
 have hnbW:nb<W.heap.size:=by
  rcases zE1 nb W.heap.size with h|h
  ·exact h
  ·rw[Array.getElem?_eq_none h]at hb;cases hb
 have hk2:∀q,ow0 q=some k2→q≠nb:=by
  rintro q hq rfl
  rcases hnb with h|h
  ·rw[h]at hq;exact hk (oI hq)
  ·have:=hlt q k2 hq;omega
 have hlen:(xs.take i++[y]++xs.drop i).length=xs.length+1:=by simp;omega
 refine A66 (T:=fun q=>(ow0 q=some k0∨ow0 q=some k2)∨q=nb) hos htape hout hsize (fun q hq h0=>hfar q hq ?_) ?_ (fun q hq=>?_)
 ·rintro rfl
  rcases hnb with h|h
  ·rw[h]at h0;cases h0
  ·omega
 ·simp only[A2]
  refine .inr ⟨nb,0,cap',arr',ety',fr',fun q=>if ow0 q=some k2 then i else if ow q<i then ow q else ow q+1,by rw[hlen],by rw[hlen];exact hcap,.inr rfl,hb,fun _=>⟨rfl,hsz,hnk⟩,fun t x hx=>?_⟩
  rw[zS]
  have ht:t<xs.length+1:=by rw[←hlen];exact(List.getElem?_eq_some_iff.mp hx).1
  have old:∀t' x',xs[t']?=some x'→(∀q,ow q=t'→(if ow q<i then ow q else ow q+1)=t)→seg arr' (t*f.size) f.size=sg t'→x'=x→
    A2 true W.heap f x (seg arr' (t*f.size) f.size) (fun q=>((ow0 q=some k0∨ow0 q=some k2)∨q=nb)∧(True→q≠nb∧(if ow0 q=some k2 then i else if ow q<i then ow q else ow q+1)=t)):=by
   rintro t' x' h1 h2 h3 rfl
   rw[h3]
   refine(A2.congr (fun q hq=>hfar q (hlt q k0 hq.1) hq.2.1) (hel t' x' h1)).mono fun q hq=>⟨.inl (.inl hq.1),fun _=>⟨hq.2.1,?_⟩⟩
   rw[if_neg (by rw[hq.1];simpa using hk)]
   exact h2 q hq.2.2
  by_cases h1:t<i
  ·rw[List.append_assoc,List.getElem?_append_left (by simp;omega),List.getElem?_take,if_pos h1]at hx
   exact(old t x hx (fun q hq=>by rw[if_pos (by omega)];exact hq) (s1 t h1) rfl).mono fun q hq=>⟨hq.1,fun _=>hq.2 trivial⟩
  ·by_cases h2:t=i
   ·subst h2
    rw[List.append_assoc,List.getElem?_append_right (by simp;omega)]at hx
    have:(t - (xs.take t).length)=0:=by simp;omega
    rw[this]at hx
    simp only[List.singleton_append,List.getElem?_cons_zero,zO]at hx
    subst hx
    rw[s2]
    refine(A2.congr (fun q hq=>hfar q (hlt q k2 hq) (hk2 q hq)) hy).mono fun q hq=>⟨.inl (.inr hq),fun _=>⟨hk2 q hq,?_⟩⟩
    dsimp only
    rw[if_pos hq]
   ·rw[List.getElem?_append_right (by simp;omega),List.getElem?_drop]at hx
    have e:i+(t - (xs.take i++[y]).length)=t - 1:=by simp;omega
    rw[e]at hx
    obtain⟨t',rfl⟩:∃t',t=t'+1:=⟨t - 1,by omega⟩
    rw[Nat.add_sub_cancel]at hx
    exact(old t' x hx (fun q hq=>by rw[if_neg (by omega),hq]) (s3 t' (by omega) (by omega)) rfl).mono fun q hq=>⟨hq.1,fun _=>hq.2 trivial⟩
 ·rcases hq with(hq|hq)|rfl
  ·have:=hlt q _ hq;exact⟨by omega,.inr (by rw[hq];simp)⟩
  ·have:=hlt q _ hq;exact⟨by omega,.inr (by rw[hq];simp)⟩
  ·refine⟨hnbW,?_⟩
   rcases hnb with h|h
   ·exact .inr (by rw[h];simp)
   ·exact .inl h
structure B1c (P:Program) (g gov S B I k:Nat):Prop where
 ent:∀args w,(callFunc g args).run P w= .ok (.enter g args) w
 ov:∀args w,(callFunc gov args).run P w=((Extern.SlicesOverlaps.overlaps #[S,S] #[B] args).run P w).andThen fun v w'=> .ok (.value v) w'
 none_:∀(w:World) (vc:Nat) (va:Addr) (Q:Ending→World→Prop) (R:Value) (W1:World),(∀ty,(Builtin.append_ #[S,S] ty #[.slice none 0 0,.slice (some va) 1 vc]).run P w= .ok R W1)→
  Q (.returned R) W1→Calls P g #[.slice none 0 0,.int .i64 0,.slice (some va) 1 vc] w Q
 last:∀(w:World) (b cap n vc:Nat) (va:Addr),n≤cap→n+1≤4611686018427387904→∀(Q:Ending→World→Prop) (R:Value) (W1:World),
  (∀ty,(Builtin.append_ #[S,S] ty #[.slice (some ⟨b,0,none⟩) n cap,.slice (some va) 1 vc]).run P w= .ok R W1)→Q (.returned R) W1→Calls P g #[.slice (some ⟨b,0,none⟩) n cap,.int .i64 n,.slice (some va) 1 vc] w Q
 grow:∀(w:World) (b cap n i vc N G:Nat) (va:Addr),i<n→n≤cap→cap<n+1→n+1≤G→n+1≤4611686018427387904→∀(Q:Ending→World→Prop) (W1 W2 W3:World),
  (∀ty,(Builtin.append_ #[S,I] ty #[.slice (some ⟨b,0,none⟩) i cap,.int .i64 (n+1 - i)]).run P w= .ok (.slice (some ⟨N,0,none⟩) (n+1) G) W1)→
  (∀ty,(Builtin.copy_ #[S,S] ty #[.slice (some ⟨N,i*k,none⟩) (n+1 - i) (G - i),.slice (some va) 1 vc]).run P W1= .ok (.int .i64 1) W2)→
  (∀ty,(Builtin.copy_ #[S,S] ty #[.slice (some ⟨N,(i+1)*k,none⟩) (n - i) (G - (i+1)),.slice (some ⟨b,i*k,none⟩) (n - i) (cap - i)]).run P W2.drew= .ok (.int .i64 (n - i)) W3)→
  Q (.returned (.slice (some ⟨N,0,none⟩) (n+1) G)) W3→Calls P g #[.slice (some ⟨b,0,none⟩) n cap,.int .i64 i,.slice (some va) 1 vc] w Q
 room:∀(w:World) (b cap n i vc:Nat) (va:Addr),i<n→n+1≤cap→n+1≤4611686018427387904→∀(Q:Ending→World→Prop),
  (callFunc gov #[.slice (some va) 1 vc,.slice (some ⟨b,(i+1)*k,none⟩) (n - i) (cap - (i+1))]).run P w= .ok (.value (.bool false)) w→∀W1 W2:World,
  (∀ty,(Builtin.copy_ #[S,S] ty #[.slice (some ⟨b,(i+1)*k,none⟩) (n - i) (cap - (i+1)),.slice (some ⟨b,i*k,none⟩) (n+1 - i) (cap - i)]).run P w.drew= .ok (.int .i64 (n - i)) W1)→
  (∀ty,(Builtin.copy_ #[S,S] ty #[.slice (some ⟨b,i*k,none⟩) (n+1 - i) (cap - i),.slice (some va) 1 vc]).run P W1= .ok (.int .i64 1) W2)→
  Q (.returned (.slice (some ⟨b,0,none⟩) (n+1) cap)) W2→Calls P g #[.slice (some ⟨b,0,none⟩) n cap,.int .i64 i,.slice (some va) 1 vc] w Q
theorem A6e {arr:Array Value}{o n q:Nat}:(seg arr o n)[q]?=if q<n then arr[o+q]? else none:=by
 split
 ·exact C5 (by assumption)
 ·exact T4 (by omega)
theorem B0s {g gov S B I e:Nat}{f:Kd}{eb:Nat}{ki:IntKind}(D:B1c P g gov S B I f.size)(hu:P.underlying S=some (.slice e))(huI:P.underlying I=some (.int ki))(he:T5 P e f eb)(hf8:f≠ .int .u8)
  {xs:List f.T} {y:f.T} {i:Nat} (hi:i≤xs.length) (hroom:room (xs.length+1) eb=true):
  N0 P [.give,.ro,.give] false g [.one (.od f xs),.one (.int .i64 i),.one (.od f [y])] (.v (.one (.od f (xs.take i++[y]++xs.drop i)))):=by
 refine⟨D.ent,fun w vs S0 ow0 hS hlt hargs=>?_⟩
 obtain⟨us0,v0,vs0,rfl,ha0,hr0,hargs⟩:=hargs
 obtain⟨us1,v1,vs1,rfl,ha1,hr1,hargs⟩:=hargs
 obtain⟨us2,v2,vs2,rfl,ha2,hr2,hargs⟩:=hargs
 have hargs:vs2=[]:=hargs
 subst hargs
 have hr0:us0=[v0]:=hr0
 have hr1:us1=[v1]:=hr1
 have hr2:us2=[v2]:=hr2
 subst hr0;subst hr1;subst hr2
 cases ha0 with|cons h0 _=>cases ha1 with|cons h1 _=>cases ha2 with|cons h2 _=>
 have h1:v1= .int .i64 i:=h1
 subst h1
 have h0:A2 true w.heap (.sl f) xs [v0] (fun q=>ow0 q=some (key (some 0) 0)):=h0
 have h2:A2 true w.heap (.sl f) [y] [v2] (fun q=>ow0 q=some (key (some 2) 0)):=h2
 have hk:key (some 0) 0≠key (some 2) 0:=by decide
 generalize key (some 0) 0=k0 at h0 hk
 generalize key (some 2) 0=k2 at h2 hk
 have hpv:C8 [.give,.ro,.give] 0 [.one (.od f xs),.one (.int .i64 i),.one (.od f [y])] [v0,.int .i64 i,v2]=[]:=rfl
 rw[hpv]
 obtain⟨r1,r2⟩:=A3q hroom
 have hbig:xs.length+1≤4611686018427387904:=by omega
 simp only[A2]at h2
 rcases h2 with⟨h2,_⟩|⟨vb,off2,vc,arr2,ety2,fr2,ow2,g1,g2,g3,g4,g5,g6⟩
 ·cases h2
 obtain⟨rfl,g7,g8⟩:=g5 trivial
 simp only[List.cons.injEq,and_true,List.length_singleton]at g1 g2
 subst g1
 have hy:A2 true w.heap f y (seg arr2 0 f.size) (fun q=>ow0 q=some k2):=by
  have:=g6 0 y rfl
  simp only[Nat.zero_mul,Nat.add_zero]at this
  exact this.mono fun q hq=>hq.1
 have hsz2:0+1*f.size≤arr2.size:=by rw[g7,zS];exact Nat.mul_le_mul_right _ g2
 have hones2:∀v∈seg arr2 0 (1*f.size),v.oneCell'=true:=by rw[Nat.one_mul];exact hy.ones
 have hpos:=f.size_pos
 have hsrc:∀w2:World,w2.heap=w.heap→(Builtin.lenOf (.slice (some ⟨vb,0,none⟩) 1 vc)).run P w2= .ok 1 w2∧(Builtin.firstCells f.size 1 (.slice (some ⟨vb,0,none⟩) 1 vc)).run P w2= .ok (seg arr2 0 (1*f.size)).toArray w2:=by
  intro w2 hw
  refine⟨rfl,?_⟩
  simp only[Builtin.firstCells]
  exact F7 (by rw[hw];exact g4) (seg_length hsz2)
 simp only[A2]at h0
 rcases h0 with⟨rfl,a,c,e1,e2⟩|⟨b,off,cap,arr,ety,fr,ow,e1,e2,e3,e4,e5,e6⟩
 · -- nothing there
  obtain⟨rfl,rfl⟩:=e2 trivial
  simp only[List.cons.injEq,and_true]at e1
  subst e1
  have hi0:i=0:=by simpa using hi
  subst hi0
  obtain⟨ncap,rest,W,p1,p2,p3,p4,p5,p6,p7⟩:=run_append_grow (P:=P) (w:=w) hu he (.inl ⟨e,hu⟩) (ts:=#[S,S]) (ty:=0) rfl rfl (p:=none) (len:=0) (cap:=0) (m:=1) (olds:=[]) (by omega) (by simpa using hroom)
   (fun w2 _=>by simp[Builtin.firstCells]) hsrc (by simp) (seg_length hsz2)
  refine D.none_ w vc ⟨vb,0,none⟩ _ _ W (fun ty=>p1) ?_
  refine W6 (nb:=w.heap.size) (sg:=fun _=>[]) (ow:=fun _=>0) hk hlt (fun t x hx=>by simp at hx) hy (Nat.le_refl _) (.inr (Nat.le_refl _)) (arr':=([]++seg arr2 0 (1*f.size)++rest).toArray) (ety':=e) (fr':=(0,0)) (by rw[p3];simp) (by simpa using p2) (by simpa using p4) NK.new
   (fun q hq _=>by rw[p3,Array.getElem?_push,if_neg (by omega)]) p5 p6 p7 (by rw[p3];simp) (fun t ht=>by omega) ?_ (fun t _ ht=>by simp at ht)
  refine B8 fun q hq=>?_
  rw[Nat.zero_mul,zS,List.getElem?_toArray,List.nil_append,List.getElem?_append_left (by rw[seg_length hsz2];omega),C5 (by omega),zS]
 obtain⟨rfl,e7,e8⟩:=e5 trivial
 simp only[List.cons.injEq,and_true]at e1
 subst e1
 have hbv:b≠vb:=by rintro rfl;rw[e3]at g3;exact hk (oI g3)
 have e6':∀(t:Nat) (x:f.T),xs[t]?=some x→A2 true w.heap f x (seg arr (t*f.size) f.size) (fun q=>ow0 q=some k0∧(true=true→q≠b∧ow q=t)):=fun t x hx=>by
  have:=e6 t x hx
  rw[zS]at this
  exact this.mono fun q hq=>⟨hq.1,fun _=>hq.2 trivial⟩
 have hin:∀t,t≤cap→t*f.size≤arr.size:=fun t ht=>by rw[e7];exact Nat.mul_le_mul_right _ ht
 have hone:∀t m,t+m≤xs.length→∀v∈seg arr (t*f.size) (m*f.size),v.oneCell'=true:=fun t m h=>A63 (S:=fun t q=>ow0 q=some k0∧(true=true→q≠b∧ow q=t)) e6' h (hin _ (by omega))
 have hblt:b<w.heap.size:=hlt b k0 e3
 have hb1:∀nb,(nb=b∨w.heap.size≤nb)→∀(t:Nat) (x:f.T),xs[t]?=some x→A2 true w.heap f x (seg arr (t*f.size) f.size) (fun q=>ow0 q=some k0∧q≠nb∧ow q=t):=fun nb hnb t x hx=>(e6' t x hx).mono fun q hq=>by
  refine⟨hq.1,?_,(hq.2 rfl).2⟩
  rcases hnb with rfl|h
  ·exact(hq.2 rfl).1
  ·have:=hlt q k0 hq.1;omega
 by_cases hin':i=xs.length
 · -- at the end
  subst hin'
  by_cases hcap:xs.length+1≤cap
  ·obtain⟨W,arr',a1,a2,a3,a4,a5,a6,a7,a8,a9⟩:=run_append_fits (P:=P) (w:=w) hu he (.inl ⟨e,hu⟩) (ts:=#[S,S]) (ty:=0) rfl rfl hcap e4 e8.1 e7 hsrc (seg_length hsz2) hones2
   refine D.last w b cap xs.length vc ⟨vb,0,none⟩ e2 hbig _ _ W (fun ty=>a1) ?_
   refine W6 (nb:=b) hk hlt (hb1 b (.inl rfl)) hy (Nat.le_refl _) (.inl e3) a2 hcap (by rw[a3];exact e7) (by rw[a3];exact e8) (fun q _ hq=>a5 q hq) a7 a8 a9 (by rw[a6];exact Nat.le_refl _) (fun t ht=>B8 fun q hq=>?_) (B8 fun q hq=>?_) (fun t h1 h2=>by omega)
   ·have:=D7 ht hq;rw[a4,if_neg (by omega)]
   ·rw[a4,if_pos (by omega),C5 (by omega)];congr 1;omega
  ·have hl0:(seg arr 0 (xs.length*f.size)).length=xs.length*f.size:=seg_length (by rw[zS];exact hin _ e2)
   obtain⟨ncap,rest,W,p1,p2,p3,p4,p5,p6,p7⟩:=run_append_grow (P:=P) (w:=w) hu he (.inl ⟨e,hu⟩) (ts:=#[S,S]) (ty:=0) rfl rfl (p:=some ⟨b,0,none⟩) (len:=xs.length) (cap:=cap) (m:=1) (olds:=seg arr 0 (xs.length*f.size)) hcap hroom
    (fun w2 hw=>by simp only[Builtin.firstCells];exact F7 (by rw[hw];exact e4) hl0) hsrc hl0 (seg_length hsz2)
   refine D.last w b cap xs.length vc ⟨vb,0,none⟩ e2 hbig _ _ W (fun ty=>p1) ?_
   refine W6 (nb:=w.heap.size) hk hlt (hb1 _ (.inr (Nat.le_refl _))) hy (Nat.le_refl _) (.inr (Nat.le_refl _)) (arr':=(seg arr 0 (xs.length*f.size)++seg arr2 0 (1*f.size)++rest).toArray) (ety':=e) (fr':=(0,0)) (by rw[p3];simp) p2 (by simpa using p4) NK.new
    (fun q hq _=>by rw[p3,Array.getElem?_push,if_neg (by omega)]) p5 p6 p7 (by rw[p3];simp) (fun t ht=>B8 fun q hq=>?_) (B8 fun q hq=>?_) (fun t h1 h2=>by omega)
   ·have:=D7 ht hq
    rw[List.getElem?_toArray,List.append_assoc,List.getElem?_append_left (by rw[hl0];omega),C5 (by omega)];congr 1;omega
   ·rw[List.getElem?_toArray,List.append_assoc,List.getElem?_append_right (by rw[hl0];omega),List.getElem?_append_left (by rw[hl0,seg_length hsz2];omega),C5 (by rw[hl0];omega),hl0];congr 1;omega
 have hlt':i<xs.length:=by omega
 have hm:Nat.min (xs.length - i) (xs.length - i)=xs.length - i:=Nat.min_self _
 have hii:i+(xs.length - i)=xs.length:=by omega
 have hkk:(i+1)*f.size=i*f.size+f.size:=by rw[zD1,Nat.one_mul]
 by_cases hcap:xs.length+1≤cap
 · -- in place
  have hov:(callFunc gov #[.slice (some ⟨vb,0,none⟩) 1 vc,.slice (some ⟨b,(i+1)*f.size,none⟩) (xs.length - i) (cap - (i+1))]).run P w= .ok (.value (.bool false)) w:=by
   have hfr2:fr2=(0,0):=g8.2.resolve_left hf8
   rw[D.ov,Lib.run_overlaps_apart w S B e hu f.size (fun w2=>by obtain⟨j,z,hj,hsz,_⟩:=he;rw[run_sizeOf hj,hsz]) ⟨vb,0,none⟩ ⟨b,(i+1)*f.size,none⟩ 1 vc (xs.length - i) (cap - (i+1)) (fun h=>hbv h.symm) ety2 ety arr2.size arr.size
    (by simp[World.shape?,g4]) (by simp[World.shape?,e4]) (by have:=hin 1 (by omega);omega) (by simp[World.frozen?,g4,hfr2]) (by simp[World.frozen?,g4,hfr2])]
   rfl
  obtain⟨W1,arr1,c1,c2,c3,c4,c5⟩:=A1e (P:=P) (w:=w.drew) (dT:=S) (sT:=S) hu he (bd:=b) (od:=(i+1)*f.size) (dl:=xs.length - i) (dc:=cap - (i+1)) (bs:=b) (so:=i*f.size) (sl:=xs.length+1 - i) (sc:=cap - i) (m:=xs.length - i) e4 e8.1 e4
   (by simp only[Nat.min_def];split<;>omega) (by rw[←zD1,hii];exact hin _ e2) (by rw[←zD1];exact hin _ (by omega)) (hone _ _ (by omega))
  have g4':W1.heap[vb]?=some (.cells arr2 ety2 fr2):=by rw[c5.far vb (fun h=>hbv h.symm)];exact g4
  obtain⟨W2,arr',d1,d2,d3,d4,d5⟩:=A1e (P:=P) (w:=W1) (dT:=S) (sT:=S) hu he (bd:=b) (od:=i*f.size) (dl:=xs.length+1 - i) (dc:=cap - i) (bs:=vb) (so:=0) (sl:=1) (sc:=vc) (m:=1) c2 (by rw[c3];exact e8.1) g4'
   (by simp only[Nat.min_def];split<;>omega) hsz2 (by rw[c3,Nat.one_mul,←hkk];exact hin _ (by omega)) hones2
  have hcast:((xs.length - i:Nat):Int)=(xs.length:Int) - (i:Int):=by omega
  refine D.room w b cap xs.length i vc ⟨vb,0,none⟩ hlt' hcap hbig _ hov W1 W2 (fun ty=>by rw[c1 ty,hcast]) d1 ?_
  have hw:=c5.trans d5
  refine W6 (nb:=b) hk hlt (hb1 b (.inl rfl)) hy hi (.inl e3) d2 hcap (by rw[d3,c3];exact e7) (by rw[d3,c3];exact e8) (fun q _ hq=>hw.far q hq) hw.os hw.tape hw.out (by rw[hw.size];exact Nat.le_refl _) (fun t ht=>B8 fun q hq=>?_) (B8 fun q hq=>?_) (fun t h1 h2=>B8 fun q hq=>?_)
  ·have:=D7 ht hq
   rw[d4,if_neg (by omega),c4,if_neg (by omega)]
  ·rw[d4,if_pos (by omega)];congr 1;omega
  ·have h3:=D7 (n:=xs.length - i) (show t - i<xs.length - i by omega) hq
   have h4:t*f.size=i*f.size+(t - i)*f.size:=by rw[←zD1];congr 1;omega
   have h5:(t+1)*f.size=t*f.size+f.size:=by rw[zD1,Nat.one_mul]
   rw[d4,if_neg (by omega),c4,if_pos (by omega)];congr 1;omega
 · -- a new row
  have hcl:cap=xs.length:=by omega
  obtain⟨j,z,hj,hsz,hby,hz,hzc⟩:=he
  have he:T5 P e f eb:=⟨j,z,hj,hsz,hby,hz,hzc⟩
  have hl0:(seg arr 0 (i*f.size)).length=i*f.size:=seg_length (by rw[zS];exact hin _ (by omega))
  have hzs:z.cells.size=f.size:=by rw[←zI1,hzc,E4]
  have hnx:=A3d (n:=i+(xs.length+1 - i)) (c:=cap) (by omega)
  have hsm:∀m,m≤2*(xs.length+1)→m*eb≤281474976710656:=fun m h=>by
   have:=Nat.mul_le_mul_right eb h
   rw[Nat.mul_assoc]at this;omega
  have hap:=Lib.run_append_grow_zeros (P:=P) w S I 0 e j z .i64 ki hu huI hj hz (some ⟨b,0,none⟩) i cap (seg arr 0 (i*f.size)) (by simp only[Builtin.firstCells,hsz];exact F7 (w:=w.drew) e4 hl0) (xs.length+1 - i) (by omega) (by rw[hsz];exact hpos) (by omega)
   (by omega) (by rw[hby];exact hsm _ (by omega)) (by rw[hby];exact hsm _ (by omega))
  have hii1:i+(xs.length+1 - i)=xs.length+1:=by omega
  rw[hii1]at hap
  have hG:xs.length+1≤grownCap w (xs.length+1) cap e:=grownCap_ge _ _ _ _
  generalize grownCap w (xs.length+1) cap e=G at hap hG
  generalize hA0:(seg arr 0 (i*f.size)).toArray++Builtin.zeroCells z.cells (xs.length+1 - i)++Builtin.zeroCells z.cells (G - (xs.length+1))=arr0 at hap
  have hsz0:arr0.size=G*f.size:=by
   rw[←hA0];simp only[Array.size_append,List.size_toArray,hl0,Builtin.zeroCells,hzs,Array.size_map,Array.size_range]
   rw[←zD1,←zD1];congr 1;omega
  have h0old:∀q,q<i*f.size→arr0[q]?=arr[q]?:=fun q hq=>by
   rw[←hA0,Array.getElem?_append_left (by simp[hl0];omega),Array.getElem?_append_left (by simp[hl0];omega),List.getElem?_toArray,C5 hq,zS]
  have hcast1:((xs.length+1 - i:Nat):Int)=(xs.length:Int)+1 - (i:Int):=by omega
  generalize hW1:w.drew.alloc (.cells arr0 e)=W1 at hap
  have hN:W1.heap[w.heap.size]?=some (.cells arr0 e (0,0)):=by rw[←hW1];show(w.heap.push _)[w.heap.size]?=_;simp
  have hold:∀q,q<w.heap.size→W1.heap[q]?=w.heap[q]?:=fun q hq=>by rw[←hW1];show(w.heap.push _)[q]?=_;rw[Array.getElem?_push,if_neg (by omega)]
  have hin0:∀t,t≤G→t*f.size≤arr0.size:=fun t ht=>by rw[hsz0];exact Nat.mul_le_mul_right _ ht
  have hvlt:vb<w.heap.size:=hlt vb k2 g3
  obtain⟨W2,arr1,c1,c2,c3,c4,c5⟩:=A1e (P:=P) (w:=W1) (dT:=S) (sT:=S) hu he (bd:=w.heap.size) (od:=i*f.size) (dl:=xs.length+1 - i) (dc:=G - i) (bs:=vb) (so:=0) (sl:=1) (sc:=vc) (m:=1) hN (NK.new (f:=f)).1 (by rw[hold vb hvlt];exact g4)
   (by simp only[Nat.min_def];split<;>omega) hsz2 (by rw[Nat.one_mul,←hkk];exact hin0 _ (by omega)) hones2
  have hb2:W2.drew.heap[b]?=some (.cells arr ety fr):=by show W2.heap[b]?=_;rw[c5.far b (by omega),hold b hblt];exact e4
  obtain⟨W3,arr',d1,d2,d3,d4,d5⟩:=A1e (P:=P) (w:=W2.drew) (dT:=S) (sT:=S) hu he (bd:=w.heap.size) (od:=(i+1)*f.size) (dl:=xs.length - i) (dc:=G - (i+1)) (bs:=b) (so:=i*f.size) (sl:=xs.length - i) (sc:=cap - i) (m:=xs.length - i) c2 (by rw[c3];exact(NK.new (f:=f)).1) hb2
   hm (by rw[←zD1,hii];exact hin _ e2) (by rw[c3,←zD1];exact hin0 _ (by omega)) (hone _ _ (by omega))
  have hcast:((xs.length - i:Nat):Int)=(xs.length:Int) - (i:Int):=by omega
  refine D.grow w b cap xs.length i vc w.heap.size G ⟨vb,0,none⟩ hlt' e2 (by omega) hG hbig _ W1 W2 W3 (fun ty=>by rw[←hcast1];exact hap) (fun ty=>c1 ty) (fun ty=>by rw[d1 ty,hcast]) ?_
  refine W6 (nb:=w.heap.size) hk hlt (hb1 _ (.inr (Nat.le_refl _))) hy hi (.inr (Nat.le_refl _)) d2 hG (by rw[d3,c3];exact hsz0) NK.new (fun q hq hne=>?_) (by rw[d5.os];show W2.os=_;rw[c5.os,←hW1];rfl) (by rw[d5.tape];show W2.tape=_;rw[c5.tape,←hW1];rfl) (by rw[d5.out];show W2.output=_;rw[c5.out,←hW1];rfl)
   (by rw[d5.size];show _≤W2.heap.size;rw[c5.size,←hW1];show _≤(w.heap.push _).size;simp) (fun t ht=>B8 fun q hq=>?_) (B8 fun q hq=>?_) (fun t h1 h2=>B8 fun q hq=>?_)
  ·rw[d5.far q hne];show W2.heap[q]?=_;rw[c5.far q hne,hold q hq]
  ·have:=D7 ht hq
   rw[d4,if_neg (by omega),c4,if_neg (by omega),h0old _ this]
  ·rw[d4,if_neg (by omega),c4,if_pos (by omega)];congr 1;omega
  ·have h3:=D7 (n:=xs.length - i) (show t - i<xs.length - i by omega) hq
   have h4:t*f.size=i*f.size+(t - i)*f.size:=by rw[←zD1];congr 1;omega
   have h5:(t+1)*f.size=t*f.size+f.size:=by rw[zD1,Nat.one_mul]
   rw[d4,if_pos (by omega)];congr 1;omega
theorem B1x {g S e:Nat}{f:Kd}{eb:Nat}(D:B1b P g S f.size)(hu:P.underlying S=some (.slice e))(he:T5 P e f eb){xs r:List f.T}{i j:Int}(h:B1f xs i j=some r):
  N0 P [.give] false g [.one (.od f xs),.one (.int .i64 i),.one (.int .i64 j)] (.v (.one (.od f r))):=by
 unfold B1f at h
 cases hd:decide (0≤i∧i<j∧j≤xs.length)<;>simp only[hd,zB,zA]at h
 ·cases h
 obtain rfl:=oI h
 rw[zG]at hd
 obtain⟨a,rfl⟩:=Int.eq_ofNat_of_zero_le hd.1
 obtain⟨b,rfl⟩:=Int.eq_ofNat_of_zero_le (show 0≤j by omega)
 simp only[zE]
 exact B0m D hu he (by omega) (by omega)
theorem B21 {g gov S B I e:Nat}{f:Kd}{eb:Nat}{ki:IntKind}(D:B1c P g gov S B I f.size)(hu:P.underlying S=some (.slice e))(huI:P.underlying I=some (.int ki))(he:T5 P e f eb)(hf8:f≠ .int .u8){xs ys r:List f.T}{i:Int}(h:B1k eb xs i ys=some r):
  N0 P [.give,.ro,.give] false g [.one (.od f xs),.one (.int .i64 i),.one (.od f ys)] (.v (.one (.od f r))):=by
 unfold B1k at h
 cases hd:decide (ys.length=1∧0≤i∧i≤xs.length)&&room (xs.length+1) eb<;>simp only[hd,zB,zA]at h
 ·cases h
 obtain rfl:=oI h
 simp only[zJ,zG]at hd
 obtain⟨⟨h1,h2,h3⟩,h4⟩:=hd
 obtain⟨a,rfl⟩:=Int.eq_ofNat_of_zero_le h2
 obtain⟨y,rfl⟩:=List.length_eq_one_iff.mp h1
 simp only[zE]
 exact B0s D hu huI he hf8 (by omega) h4
theorem B1z {g:Nat}{fn:Func}(hf:P.funcs[g]?=some fn)(hb:fn.body.isSome=true)(hn:(fn.name== "runtime.NumGoroutine")=false):∀args w,(callFunc g args).run P w= .ok (.enter g args) w:=by
 intro args w
 obtain⟨c,hc⟩:=Option.isSome_iff_exists.mp hb
 simp[callFunc,hf,hc]
 simpa using hn
end
end Go.Proofs.YtalmhjlcjcnidaaGreat.Ev

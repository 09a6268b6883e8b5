/- slices.Sort of texts: what its cells come to, as typed data that is owned. -/
import Derived.Test.YtalmhjlcjcnidaaGreatEvRaw
import Derived.Sort.Grow
import Derived.Sort.EncStr
set_option linter.all false
namespace Go.Proofs.YtalmhjlcjcnidaaGreat.Ev
open Go Go.Proofs Go.Sort
section
variable {P:Program} {w:World}
structure B09 (P:Program) (g:Nat):Prop where
 ent:∀args w,(callFunc g args).run P w= .ok (.enter g args) w
 nix:∀(p:Option Addr) (cap:Nat) (w:World),Calls P g #[.slice p 0 cap] w fun e w'=>e= .returned (.tuple #[])∧w'=w
 walk:∀(b off cap:Nat) (ss:List (List UInt8)) (w:World),Holds encStr w b off ss.toArray→b<w.heap.size→ss.length<4611686018427387904→
  Calls P g #[.slice (some ⟨b,off,none⟩) ss.length cap] w fun e w'=>e= .returned (.tuple #[])∧∃n os,w'=grow (putRow encStr (Sort.ahead w n) b off (ss.mergeSort fun x y=>decide (x≤y)).toArray) os
theorem A8m (s:ByteArray):s.data.toList.length=s.size:=by rw[zI1];rfl
theorem A7h (s:ByteArray):s.toList=s.data.toList:=by
 have h:∀(n i:Nat) (r:List UInt8),s.size - i=n→ByteArray.toList.loop s i r=r.reverse++s.data.toList.drop i:=by
  intro n
  induction n with
  |zero=>
   intro i r h
   unfold ByteArray.toList.loop
   rw[if_neg (by omega)]
   have:s.data.toList.length≤i:=by rw[A8m];omega
   simp[List.drop_eq_nil_of_le this]
  |succ n ih=>
   intro i r h
   unfold ByteArray.toList.loop
   rw[if_pos (by omega),ih (i+1) _ (by omega)]
   have hi:i<s.data.toList.length:=by rw[A8m];omega
   rw[zC1 hi]
   have:s.get! i=s.data.toList[i]:=by
    have hi':i<s.data.size:=by simpa using hi
    rw[ByteArray.get!,Array.getElem!_eq_getD]
    simp only[Array.getD,hi',dite_true]
    rfl
   simp[this]
 simpa[ByteArray.toList]using h s.size 0 [] (by omega)
theorem A0z:∀a b:List UInt8,(Op.bytesLess a b=true)↔a<b
 |a,[]=>by cases a<;>simp[Op.bytesLess]
 |[],_::_=>by simp[Op.bytesLess]
 |a::x,b::y=>by
  simp only[Op.bytesLess,Bool.or_eq_true,zG,zJ,beq_iff_eq,List.cons_lt_cons_iff,A0z x y]
theorem A94 (a b:List UInt8):decide (a≤b)= !Op.bytesLess b a:=by
 rw[Bool.eq_iff_iff,zG,Bool.not_eq_true',←Bool.not_eq_true,A0z]
 exact Iff.rfl
theorem A7l {S:Nat→Prop}{ow0:Nat→Option Nat}{w':World}{f:Kd}{ys:List f.T}{a:Option Addr}{n c:Nat}{T:Nat→Prop}(hos:w'.os=w.os)(htape:w'.tape=w.tape)(hout:w'.output=w.output)(hsize:w.heap.size≤w'.heap.size)
  (hframe:∀q,q<w.heap.size→ow0 q=none→w'.heap[q]?=w.heap[q]?) (hc:A2 true w'.heap (.sl f) ys [.slice a n c] T) (hT:∀q,T q→q<w'.heap.size∧(w.heap.size≤q∨ow0 q≠none)):
  A1l S ow0 w w' false [.slice a n c] (.tup [.one (.od f ys)]) (.tuple #[]):=by
 classical
 refine⟨hos,htape,hout,hsize,hframe,fun q=>if T q then some 0 else none,[.slice a n c],.tuple #[.slice a n c],fun q j hq=>?_,fun l hl=>?_,?_,⟨[.slice a n c],rfl,[.slice a n c],[],.slice a n c,[],rfl,rfl,rfl,rfl,rfl⟩,.inr ⟨by simp,[.one (.od f ys)],[],[.slice a n c],rfl,rfl,rfl,.slice a n c,[],rfl,rfl,.inl ⟨⟨a,n,c,rfl⟩,rfl⟩⟩⟩
 ·dsimp only at hq
  split at hq
  ·exact hT q (by assumption)
  ·cases hq
 ·simp only[AV.leaves,zV,List.flatMap_nil,TV.leaves,zH1,zF1]at hl
  subst hl;trivial
 ·refine .cons ?_ .nil
  exact hc.mono fun q hq=>if_pos hq
theorem B06 {g:Nat}(D:B09 P g){xs:List ByteArray}(hlen:xs.length<4611686018427387904):
  N0 P [.io] false g [.one (.od .str xs)] (.tup [.one (.od .str (xs.mergeSort fun a b=> !Op.bytesLess b.toList a.toList))]):=by
 refine⟨D.ent,fun w vs S0 ow0 hS hlt hargs=>?_⟩
 obtain⟨us0,v0,vs0,rfl,ha0,hr0,hargs⟩:=hargs
 have hargs:vs0=[]:=hargs
 subst hargs
 have hr0:us0=[v0]:=hr0
 subst hr0
 cases ha0 with|cons h0 _=>
 have h0:A2 true w.heap (.sl .str) xs [v0] (fun q=>ow0 q=some (key (some 0) 0)):=h0
 generalize key (some 0) 0=k0 at h0
 have hpv:C8 [.io] 0 [.one (.od .str xs)] [v0]=[v0]:=rfl
 rw[hpv]
 have hnil:∀(p:Option Addr) (cap:Nat),xs=[]→v0= .slice p 0 cap→Calls P g [v0].toArray w fun
   | .returned v,w'=>A1l S0 ow0 w w' false [v0] (.tup [.one (.od .str (xs.mergeSort fun a b=> !Op.bytesLess b.toList a.toList))]) v
   |_,_=>False:=by
  rintro p cap rfl rfl
  refine(D.nix p cap w).mono ?_
  rintro e w' ⟨rfl,rfl⟩
  rw[List.mergeSort_nil]
  exact A7l (T:=fun q=>ow0 q=some k0) rfl rfl rfl (Nat.le_refl _) (fun _ _ _=>rfl) h0 (fun q hq=>⟨hlt q k0 hq,.inr (by rw[hq];simp)⟩)
 have h0':=h0
 simp only[A2]at h0
 rcases h0 with⟨rfl,a,c,e,_⟩|⟨b,off,cap,arr,ety,fr,ow,e1,e2,e3,e4,e5,e6⟩
 ·exact hnil a c rfl (List.cons.inj e).1
 obtain⟨rfl,e7,e8⟩:=e5 trivial
 simp only[List.cons.injEq,and_true]at e1
 cases hx:xs with
 |nil=>rw[←hx];exact hnil _ cap hx (by rw[e1,hx];rfl)
 |cons x0 xt=>
 rw[←hx]
 subst e1
 have e6':∀(t:Nat) (x:ByteArray),xs[t]?=some x→arr[t]?=some (.string x):=fun t x h=>by
  have:=e6 t x h
  simp only[A2,Kd.size,zS,Nat.mul_one]at this
  have h1:=A6e (arr:=arr) (o:=t) (n:=1) (q:=0)
  rw[this,if_pos Nat.one_pos]at h1
  simpa using h1.symm
 have hsz:arr.size=cap:=by rw[e7];simp[Kd.size]
 have hb:b<w.heap.size:=by
  rcases zE1 b w.heap.size with h|h
  ·exact h
  ·rw[Array.getElem?_eq_none h]at e4;cases e4
 have hH:Holds encStr w b 0 (xs.map fun x=>x.data.toList).toArray:=by
  intro j hj
  simp only[List.size_toArray,List.length_map]at hj
  have h1:=e6' j xs[j] (List.getElem?_eq_getElem hj)
  refine⟨?_,?_⟩
  ·simp only[World.cell?,e4,zS,h1]
   rw[getElem!_pos _ j (by simpa using hj)]
   simp[encStr]
  ·have hnf:=e8.1 j (by rw[hsz];omega)
   simp only[World.frozen?,e4,zS]
   simpa using hnf
 have hw:=D.walk b 0 cap (xs.map fun x=>x.data.toList) w hH hb (by simpa using hlen)
 rw[List.length_map]at hw
 refine hw.mono ?_
 rintro e w' ⟨rfl,n,os,rfl⟩
 have hms:(xs.map fun x=>x.data.toList).mergeSort (fun x y=>decide (x≤y))=(xs.mergeSort fun a b=> !Op.bytesLess b.toList a.toList).map fun x=>x.data.toList:=by
  rw[List.map_mergeSort]
  intro a _ b _
  rw[A94,A7h,A7h]
 rw[hms]
 generalize hys:(xs.mergeSort fun a b=> !Op.bytesLess b.toList a.toList)=ys
 have hl:ys.length=xs.length:=by rw[←hys,List.length_mergeSort]
 have hheap:∀q,q<w.heap.size→(grow (putRow encStr (Sort.ahead w n) b 0 (ys.map fun x=>x.data.toList).toArray) os).heap[q]?=if b=q then w.heap[q]?.map (onCells (putCells encStr 0 (ys.map fun x=>x.data.toList).toArray))else w.heap[q]?:=by
  intro q hq
  simp only[grow,putRow,mapBlock,Sort.ahead]
  rw[Array.getElem?_append_left (by simpa using hq),Array.getElem?_modify]
 refine A7l (T:=fun q=>ow0 q=some k0) rfl rfl rfl (by simp[grow,putRow,mapBlock,Sort.ahead]) (fun q hq h0=>?_) ?_ (fun q hq=>⟨?_,.inr (by rw[hq];simp)⟩)
 ·rw[hheap q hq,if_neg]
  rintro rfl;rw[e3]at h0;cases h0
 ·simp only[A2]
  refine .inr ⟨b,0,cap,_,ety,fr,fun q=>0,by rw[hl],by rw[hl];exact e2,e3,by rw[hheap b hb,if_pos rfl,e4];rfl,fun _=>⟨rfl,by simp[putCells];exact e7,by simpa[putCells]using e8⟩,fun t x hx=>?_⟩
  have ht:t<ys.length:=(List.getElem?_eq_some_iff.mp hx).1
  simp only[A2,Kd.size,zS,Nat.mul_one]
  have hc:(putCells encStr 0 (ys.map fun x=>x.data.toList).toArray arr)[t]?=some (.string x):=by
   simp only[putCells,Array.getElem?_mapIdx]
   rw[Array.getElem?_eq_getElem (show t<arr.size by rw[hsz];omega)]
   simp only[Option.map_some,Nat.zero_le,List.size_toArray,List.length_map,zS,ht,and_self,if_true,Nat.sub_zero]
   rw[getElem!_pos _ t (by simpa using ht)]
   have:=(List.getElem?_eq_some_iff.mp hx).2
   simp[encStr,this]
  refine List.ext_getElem? fun q=>?_
  rw[A6e]
  cases q with
  |zero=>simp[hc]
  |succ q=>simp
 ·have:=hlt q k0 hq
  simp[grow,putRow,mapBlock,Sort.ahead];omega
theorem B1t {g:Nat}(D:B09 P g){a:List ByteArray×Unit}{r:List ByteArray×Unit}(h:(B0g a.1).map (fun x=>(x,()))=some r):
  N0 P [.io] false g [.one (.od .str a.1)] (.tup [.one (.od .str r.1)]):=by
 unfold B0g at h
 cases hd:decide (a.1.length<4611686018427387904)<;>simp only[hd,zB,zA]at h
 ·cases h
 obtain rfl:=oI h
 exact B06 D (by simpa using hd)
end
end Go.Proofs.YtalmhjlcjcnidaaGreat.Ev

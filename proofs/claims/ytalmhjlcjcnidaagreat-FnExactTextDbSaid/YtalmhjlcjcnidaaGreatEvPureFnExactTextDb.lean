/- The pure part of the law FnExactTextDb, second half: what the program computes answers as the statement says, for every input. -/
import Derived.Test.YtalmhjlcjcnidaaGreatEvPureAFnExactTextDb
set_option linter.all false
namespace Go.Proofs.YtalmhjlcjcnidaaGreat.Ev
open Go
noncomputable def C4n (n:Nat)(s:ByteArray)(c d:Int):Option (B3u×(Bool×Unit)):=
 (bif decide ((1:Int)<(s.size:Int))then(bif inR (0:Int) s.size then(bif bt s (0:Int)==(39:Int)then(bif decide ((s.size:Int)<(94:Int))then B3m n n s (1:Int) (0:Int) (0:Int) E0 c d E0 []
  else((B2u n c d E0).bind fun r=>bif !(r.toList==s.toList)then some ((0,(0,E0)),(false,()))else some ((c,(d,E0)),(true,()))))
  else((B2u n c d E0).bind fun r=>bif !(r.toList==s.toList)then some ((0,(0,E0)),(false,()))else some ((c,(d,E0)),(true,()))))else none)
  else((B2u n c d E0).bind fun r=>bif !(r.toList==s.toList)then some ((0,(0,E0)),(false,()))else some ((c,(d,E0)),(true,()))))
theorem F1e:EV fun n=>∀(s:ByteArray) (c d:Int),∃v,C4n n s c d=some (D64 v s)∧((s.size=0∨bt s (0:Int)≠39)→v=(c,(d,E0)))∧∀w:ByteArray,w.size≤30→s=B74 w→v=(3,(0,w)):=(C6v.and (E39.and (EV.gt 100))).mono fun n ⟨hv,hh,hn⟩ s c d=>by
 have hz:B88 1048576 (c,d,E0):=show E0.size≤1048576 by decide
 have e:=hv _ hz
 simp only at e
 have chk:((B2u n c d E0).bind fun r=>bif !(r.toList==s.toList)then some ((0,(0,E0)),(false,()))else some ((c,(d,E0)),(true,())))=some (D64 (c,(d,E0)) s):=by
  rw[e,zC];exact E1f _ _ _ rfl
 unfold C4n
 rw[chk]
 by_cases c1:1<s.size
 ·rw[zD (show(1:Int)<(s.size:Int)by omega),zB,show inR (0:Int) s.size=true from R1 (k:=0) (by omega),zB,B31]
  by_cases c2:bt s (0:Int)=39
  ·rw[zD c2,zB]
   by_cases c3:s.size<94
   ·rw[zD (show(s.size:Int)<94 by omega),zB]
    obtain⟨b,e1,e2⟩:=F1f n hv hh s c3 c d s.size n 1 [] (by omega) (by omega) (by omega) (by omega) (by simp)
    refine⟨_,e1,fun h=>?_,fun w hw he=>?_⟩
    ·rcases h with h|h
     ·omega
     ·exact absurd c2 h
    ·have q:=D03 w
     rw[←he]at q
     have:=e2 w.data.toList (by rw[q];rfl)
     rw[this,List.nil_append,F2f]
   ·rw[zK (show¬(s.size:Int)<94 by omega),zA]
    refine⟨_,rfl,fun _=>rfl,fun w hw he=>?_⟩
    have:=(D6w w hw).1
    rw[←he]at this;omega
  ·rw[zK c2,zA]
   refine⟨_,rfl,fun _=>rfl,fun w hw he=>?_⟩
   have q:=D03 w
   rw[←he]at q
   exact absurd (E5d q).2 c2
 ·rw[zK (show¬(1:Int)<(s.size:Int)by omega),zA]
  refine⟨_,rfl,fun _=>rfl,fun w hw he=>?_⟩
  have:=(D6w w hw).2
  rw[←he]at this;omega
theorem E37:EV fun n=>∀s:ByteArray,s.size≤1048576→∃r,C0i n s=some r∧C33 s r∧C3f s r:=(E36.and F1e).up fun n ⟨hn,ht⟩ s hs=>by
 have e:C0i (n+1) s=C4n n s (D3h s).1 (D3h s).2:=by
  have e0:C0i (n+1) s=((C4o n s).bind fun r2=>bif r2.2.1 then(bif s.toList==D63.toList then C4n n s 1 (IntKind.wrap .i64 (5 - (s.size:Int)))else bif s.toList==D43.toList then C4n n s 1 (IntKind.wrap .i64 (5 - (s.size:Int)))else C4n n s 2 r2.1)
   else(bif s.toList==D63.toList then C4n n s 1 (IntKind.wrap .i64 (5 - (s.size:Int)))else bif s.toList==D43.toList then C4n n s 1 (IntKind.wrap .i64 (5 - (s.size:Int)))else C4n n s 0 0)):=rfl
  rw[e0,hn,zC,B2p,B2p,wrap64 (by omega) (by omega)]
  unfold D3h
  by_cases c1:s=D63
  ·rw[zD c1,if_pos c1];cases (B6y s).2.1<;>rfl
  ·by_cases c2:s=D43
   ·rw[zK c1,zD c2,if_neg c1,if_pos c2];cases (B6y s).2.1<;>rfl
   ·rw[zK c1,zK c2,if_neg c1,if_neg c2];cases (B6y s).2.1<;>rfl
 obtain⟨v,a1,a2,a3⟩:=ht s (D3h s).1 (D3h s).2
 refine⟨_,e.trans a1,?_,?_⟩
 ·by_cases c:s=E0
  ·have hv:=a2 (Or.inl (by rw[c];rfl))
   have:D3h s=(0,0):=by rw[c];decide
   rw[this]at hv
   rw[hv,c];left;decide
  ·exact E26 c
 ·intro w hw hs
  have key:v=w:=by
   rcases B9c hw hs with⟨e1,e2⟩|⟨e1,e2⟩|⟨e1,e2⟩|⟨e1,e2,e3⟩|⟨e1,e2,e3⟩
   ·have:=a2 (Or.inr (by rw[e2];decide))
    rw[this,e1,show D3h s=(0,0)by rw[e2];decide]
   ·have:=a2 (Or.inr (by rw[e2];decide))
    rw[this,e1,show D3h s=(1,1)by rw[e2];decide]
   ·have:=a2 (Or.inr (by rw[e2];decide))
    rw[this,e1,show D3h s=(1,0)by rw[e2];decide]
   ·have f:=C7g e2
    rw[←e3]at f
    have:=a2 (Or.inr (by omega))
    have n1:s≠D63:=fun h=>by rw[h]at f;revert f;decide
    have n2:s≠D43:=fun h=>by rw[h]at f;revert f;decide
    have tn:=E25 e2
    rw[←e3]at tn
    rw[this,show D3h s=(2,w.2.1)by unfold D3h;rw[if_neg n1,if_neg n2,tn];rfl,e1]
   ·rw[a3 _ e2 e3,e1]
  rw[←key];unfold D64;rw[if_pos (by rw[key];exact hs)]
theorem E7o {w:B3u}{s:ByteArray}(hw:B46 w.1 w.2.1 w.2.2=true)(h:B2l w=s):s≠E0:=by
 have z:E0.size=0:=rfl
 rcases B9c hw h with⟨_,e⟩|⟨_,e⟩|⟨_,e⟩|⟨_,e2,e⟩|⟨_,e2,e⟩
 ·rw[e];decide
 ·rw[e];decide
 ·rw[e];decide
 ·have:=(C7g e2).1;rw[←e]at this;intro c;rw[c]at this;omega
 ·have:=(D6w _ e2).2;rw[←e]at this;intro c;rw[c]at this;omega
theorem E5m:EV fun n=>∀x:Int,∃i,C69 n x=some i∧(i= -1∨(0≤i∧i<16))∧∀q:Nat,q<16→x=C7p q→i=(q:Int):=(EV.gt 100).up fun n hn x=>by
 obtain⟨i,a1,a2,a3⟩:=F12 x (-1) (fun j k=>B9s n j x (k:Int)) (fun j=>by simp only[B9s];rfl) (fun j k hk=>by
  have e:decide ((k:Int)<(16:Int))=true:=zD (by omega)
  have i1:inR (k:Int) (ByteArray.size ⟨#[48,49,50,51,52,53,54,55,56,57,97,98,99,100,101,102]⟩)=true:=R1 (show k<16 from hk)
  have i2:bt ⟨#[48,49,50,51,52,53,54,55,56,57,97,98,99,100,101,102]⟩ (k:Int)=C7p k:=rfl
  simp only[B9s,e,i1,i2,zB,B26 hk (by decide),B31]
  by_cases c:C7p k=x<;>simp[c]) 16 n 0 rfl (by omega)
 exact⟨i,a1,a2,fun q h2 h3=>a3 q (Nat.zero_le _) h2 h3⟩
theorem E12 (n:Nat)(hh:∀x:Int,∃i,C69 n x=some i∧(i= -1∨(0≤i∧i<16))∧∀q:Nat,q<16→x=C7p q→i=(q:Int))
  (s:ByteArray) (hs:s.size≤1048576):∀(m j k:Nat) (acc:List Int),s.size - k≤m→m<j→k≤s.size→acc.length≤k→
  ∃r,B6b n j s (k:Int) acc=some r∧r.1.size≤s.size∧∀t:List UInt8,(sI s).drop k=B4w t++[]→r=(strOfNums (acc++t.map fun b=>(b.toNat:Int)),(true,())):=by
 have hexit:∀(j k:Nat) (acc:List Int),¬k<s.size→k≤s.size→acc.length≤k→
   ∃r,B6b n (j+1) s (k:Int) acc=some r∧r.1.size≤s.size∧∀t:List UInt8,(sI s).drop k=B4w t++[]→r=(strOfNums (acc++t.map fun b=>(b.toNat:Int)),(true,())):=by
  intro j k acc hc hk ha
  refine⟨(strOfNums acc,(true,())),?_,by simp only[D01];omega,fun t ht=>?_⟩
  ·simp only[B6b,A7d]
   rw[zK hc,zA]
  ·have e:=congrArg List.length ht
   rw[List.length_drop,D70,List.length_append,zX]at e
   cases t with
   |nil=>simp
   |cons b t=>
    have:1≤(C5d b).length:=by unfold C5d;split<;>simp
    simp only[B4w,List.length_append]at e;omega
 intro m
 induction m with
 |zero=>
  intro j k acc hm hj hk ha
  obtain⟨j,rfl⟩:∃i,j=i+1:=⟨j - 1,by omega⟩
  exact hexit j k acc (by omega) hk ha
 |succ m ih=>
  intro j k acc hm hj hk ha
  obtain⟨j,rfl⟩:∃i,j=i+1:=⟨j - 1,by omega⟩
  by_cases hks:k<s.size
  ·have r2:∀x:Int,room (acc.length+([x]:List Int).length) 1=true:=fun x=>E22 (by simp;omega)
   have w2:IntKind.wrap .i64 ((k:Int)+(2:Int))=((k+2:Nat):Int):=wrap_add (d:=2) hks (by omega) (by decide)
   have w1:IntKind.wrap .i64 ((k:Int)+(1:Int))=((k+1:Nat):Int):=B26 hks (by omega)
   simp only[B6b,A7d]
   rw[zD hks]
   simp only[zB,R1 hks,B4r,w1,w2,r2]
   by_cases h37:bt s (k:Int)=37
   ·rw[zD h37]
    simp only[zT,zA]
    by_cases h2:k+2<s.size
    ·obtain⟨i1,a1,a2,a3⟩:=hh (bt s ((k+1:Nat):Int))
     obtain⟨i2,b1,b2,b3⟩:=hh (bt s ((k+2:Nat):Int))
     have w3:IntKind.wrap .i64 (((k+2:Nat):Int)+(1:Int))=((k+3:Nat):Int):=B26 h2 (by omega)
     rw[zK (show¬(s.size:Int)≤((k+2:Nat):Int)by omega)]
     simp only[zA,zB,R1 h2,R1 (show k+1<s.size by omega),a1,b1,zC,w3]
     have nocase:∀t:List UInt8,(sI s).drop k=B4w t++[]→∃c' t',t=c'::t'∧i1=((c'.toNat / 16:Nat):Int)∧i2=((c'.toNat % 16:Nat):Int)∧(sI s).drop (k+3)=B4w t'++[]:=by
      intro t ht
      rcases E18 ht with⟨rfl,q1⟩|⟨c',t',rfl,p,q1,q2,q3⟩|⟨c',t',rfl,q1,q2,q3,q4,q5⟩
      ·have e:=congrArg List.length q1
       rw[List.length_drop,D70]at e
       simp at e;omega
      ·have:=p.2.2.2;omega
      ·have hb:=D0d c'
       exact⟨c',t',rfl,a3 _ (by omega) q3,b3 _ (by omega) q4,q5⟩
     by_cases n1:i1<0
     ·rw[zD n1,zB]
      refine⟨_,rfl,Nat.zero_le _,fun t ht=>?_⟩
      obtain⟨c',t',rfl,x1,x2,q5⟩:=nocase t ht
      omega
     ·rw[zK n1,zA]
      by_cases n2:i2<0
      ·rw[zD n2,zB]
       refine⟨_,rfl,Nat.zero_le _,fun t ht=>?_⟩
       obtain⟨c',t',rfl,x1,x2,q5⟩:=nocase t ht
       omega
      ·rw[zK n2,zA]
       obtain⟨b,e1,e2,e3⟩:=ih j (k+3) (acc++[IntKind.wrap .u8 (IntKind.wrap .i64 (IntKind.wrap .i64 (16*i1)+i2))]) (by omega) (by omega) (by omega) (by simp;omega)
       refine⟨b,e1,e2,fun t ht=>?_⟩
       obtain⟨c',t',rfl,x1,x2,q5⟩:=nocase t ht
       have hb:=D0d c'
       rw[e3 t' q5,x1,x2,wrap64 (x:=16*((c'.toNat / 16:Nat):Int)) (by omega) (by omega),wrap64 (by omega) (by omega)]
       have y:(16:Int)*((c'.toNat / 16:Nat):Int)+((c'.toNat % 16:Nat):Int)=((16*(c'.toNat / 16)+c'.toNat % 16:Nat):Int):=by omega
       rw[y,byteOf];simp
    ·rw[zD (show(s.size:Int)≤((k+2:Nat):Int)by omega),zB]
     refine⟨_,rfl,Nat.zero_le _,fun t ht=>?_⟩
     rcases E18 ht with⟨rfl,q1⟩|⟨c',t',rfl,p,q1,q2,q3⟩|⟨c',t',rfl,q1,q2,q3,q4,q5⟩
     ·have e:=congrArg List.length q1
      rw[List.length_drop,D70]at e
      simp at e;omega
     ·have:=p.2.2.2;omega
     ·omega
   ·rw[zK h37]
    simp only[zU,zB]
    obtain⟨b,e1,e2,e3⟩:=ih j (k+1) (acc++[bt s (k:Int)]) (by omega) (by omega) (by omega) (by simp;omega)
    refine⟨b,e1,e2,fun t ht=>?_⟩
    rcases E18 ht with⟨rfl,q1⟩|⟨c',t',rfl,p,q1,q2,q3⟩|⟨c',t',rfl,q1,q2,q3,q4,q5⟩
    ·have e:=congrArg List.length q1
     rw[List.length_drop,D70]at e
     simp at e;omega
    ·rw[e3 t' q3,q2];simp
    ·omega
  ·exact hexit j k acc hks hk ha
noncomputable def F0v (n:Nat)(s:ByteArray)(c d:Int)(t:ByteArray):Option (B3u×(Bool×Unit)):=bif s.toList==E0.toList then some ((0,(0,E0)),(false,()))else((B40 n c d t).bind fun r=>bif !(r.toList==s.toList)then some ((0,(0,E0)),(false,()))else some ((c,(d,t)),(true,())))
theorem D8y {n:Nat}(hv:∀x:B3u,B88 1048576 x→B40 n x.1 x.2.1 x.2.2=some (B2l x))(s:ByteArray)(c d:Int)(t:ByteArray)(ht:t.size≤1048576):
  ∃r,F0v n s c d t=some r∧C33 s r∧∀w:B3u,B46 w.1 w.2.1 w.2.2=true→B2l w=s→w=(c,(d,t))→r=(w,(true,())):=by
 unfold F0v
 rw[B2p]
 by_cases c1:s=E0
 ·rw[zD c1,zB]
  exact⟨_,rfl,Or.inl rfl,fun w hw h _=>absurd c1 (E7o hw h)⟩
 ·rw[zK c1,zA]
  have e:=hv (c,(d,t)) ht
  simp only at e
  rw[e,zC]
  refine⟨_,E1f _ _ _ rfl,E26 c1,fun w hw h he=>?_⟩
  rw[←he];unfold D64;rw[if_pos h]
theorem F3z (s:ByteArray)(b:Nat):sI (s.extract 1 b)=((sI s).drop 1).take (b - 1):=by
 unfold sI
 rw[ByteArray.data_extract,Array.toList_extract]
 simp[List.extract]
theorem C1q (w:ByteArray):1<(B74 w).size∧bt (B74 w) (0:Int)=39∧bt (B74 w) (((B74 w).size - 1:Nat):Int)=39∧sI ((B74 w).extract 1 ((B74 w).size - 1))=B4w w.data.toList:=by
 have q:=D03 w
 have e:(B74 w).size=(B4w w.data.toList).length+2:=by unfold B74;rw[D01];simp
 have h1:(sI (B74 w)).drop ((B4w w.data.toList).length+1)=39::[]:=by
  rw[q];simp
 have h2:=C8x h1
 refine⟨by omega,(E5d q).2,?_,?_⟩
 ·rw[e];exact h2.2.1
 ·rw[F3z,q,e]
  simp
theorem E5n:EV fun n=>∀s:ByteArray,s.size≤1048576→∃r,C8s n s=some r∧r.1.size≤s.size∧∀w:ByteArray,sI s=B4w w.data.toList→r=(w,(true,())):=(E5m.and (EV.gt 1048577)).up fun n ⟨h3,hn⟩ s hs=>by
 obtain⟨r,a1,a2,a3⟩:=E12 n h3 s hs s.size n 0 [] (by omega) (by omega) (by omega) (by simp)
 refine⟨r,a1,a2,fun w hw=>?_⟩
 have:=a3 w.data.toList (by rw[zH1,←hw];rfl)
 rw[this,List.nil_append,F2f]
noncomputable def D96 (n:Nat)(s:ByteArray):Option (B3u×(Bool×Unit)):=(C0d n s).bind fun r=>F0v n s 2 r.1 E0
noncomputable def E5i (n:Nat)(s:ByteArray):Option (B3u×(Bool×Unit)):=
 bif decide ((1:Int)<(s.size:Int))then(bif inR (0:Int) s.size then(bif bt s (0:Int)==(39:Int)then
  (bif inR (IntKind.wrap .i64 ((s.size:Int) - 1)) s.size then(bif bt s (IntKind.wrap .i64 ((s.size:Int) - 1))==(39:Int)then
   (bif decide (0≤(1:Int)∧(1:Int)≤IntKind.wrap .i64 ((s.size:Int) - 1)∧IntKind.wrap .i64 ((s.size:Int) - 1)≤(s.size:Int))then
    ((C8s n (s.extract (1:Int).toNat (IntKind.wrap .i64 ((s.size:Int) - 1)).toNat)).bind fun r=>bif !r.2.1 then some ((0,(0,E0)),(false,()))else F0v n s 3 0 r.1)else none)else D96 n s)else none)else D96 n s)else none)else D96 n s
theorem F16:EV fun n=>∀s:ByteArray,s.size≤1048576→∃r,E5i n s=some r∧C33 s r∧(∀a,(-1099511627775≤a∧a≤1099511627775)→s=B30 a→r=((2,(a,E0)),(true,())))∧∀w:ByteArray,w.size≤30→s=B74 w→r=((3,(0,w)),(true,())):=(E2y.and (C2w.and E5n)).mono fun n ⟨h1,h2,h3⟩ s hs=>by
 have z0:E0.size≤1048576:=by decide
 have num:∀(hq:∀w:ByteArray,w.size≤30→s≠B74 w),∃r,D96 n s=some r∧C33 s r∧(∀a,(-1099511627775≤a∧a≤1099511627775)→s=B30 a→r=((2,(a,E0)),(true,())))∧∀w:ByteArray,w.size≤30→s=B74 w→r=((3,(0,w)),(true,())):=by
  intro hq
  unfold D96
  rw[h1 s hs,zC]
  obtain⟨r,a1,a2,a3⟩:=D8y h2 s 2 (B6y s).1 E0 z0
  refine⟨r,a1,a2,fun a ha he=>?_,fun w hw he=>absurd he (hq w hw)⟩
  have ok:B46 2 a E0=true:=by simp[B46,ha]
  have tx:B2l (2,(a,E0))=s:=by unfold B2l;simp only[ok];rw[he];rfl
  refine a3 (2,(a,E0)) ok tx ?_
  rw[he,E25 ha]
 unfold E5i
 by_cases c1:1<s.size
 ·rw[zD (show(1:Int)<(s.size:Int)by omega),zB,show inR (0:Int) s.size=true from R1 (k:=0) (by omega),zB,B31]
  by_cases c2:bt s (0:Int)=39
  ·rw[zD c2,zB]
   have w:IntKind.wrap .i64 ((s.size:Int) - 1)=((s.size - 1:Nat):Int):=by rw[wrap64 (by omega) (by omega)];omega
   rw[w,R1 (by omega),zB,B31]
   by_cases c3:bt s ((s.size - 1:Nat):Int)=39
   ·rw[zD c3,zB,zD (by omega),zB,zE,show(1:Int).toNat=1 from rfl]
    have hx:(s.extract 1 (s.size - 1)).size≤1048576:=by rw[ByteArray.size_extract];omega
    obtain⟨r,a1,a2,a3⟩:=h3 _ hx
    rw[a1,zC]
    have nonum:∀a,(-1099511627775≤a∧a≤1099511627775)→s≠B30 a:=by
     intro a ha he
     have:=(C7g ha).2
     rw[←he]at this;omega
    cases hr:r.2.1
    ·rw[zU,zB]
     refine⟨_,rfl,Or.inl rfl,fun a ha he=>absurd he (nonum a ha),fun w hw he=>?_⟩
     have q:=(C1q w).2.2.2
     rw[←he]at q
     have:=a3 w q
     rw[this]at hr;cases hr
    ·rw[zT,zA]
     obtain⟨y,b1,b2,b3⟩:=D8y h2 s 3 0 r.1 (by omega)
     refine⟨y,b1,b2,fun a ha he=>absurd he (nonum a ha),fun w hw he=>?_⟩
     have q:=(C1q w).2.2.2
     rw[←he]at q
     have e:=a3 w q
     have ok:B46 3 0 w=true:=by simp[B46,hw]
     have tx:B2l (3,(0,w))=s:=by unfold B2l;simp only[ok];rw[he];rfl
     exact b3 (3,(0,w)) ok tx (by rw[e])
   ·rw[zK c3,zA]
    exact num fun w hw he=>c3 (by have:=(C1q w).2.2.1;rw[←he]at this;exact this)
  ·rw[zK c2,zA]
   exact num fun w hw he=>c2 (by have:=(C1q w).2.1;rw[←he]at this;exact this)
 ·rw[zK (show¬(1:Int)<(s.size:Int)by omega),zA]
  exact num fun w hw he=>c1 (by have:=(C1q w).1;rw[←he]at this;exact this)
theorem C6s:EV fun n=>∀s:ByteArray,s.size≤1048576→∃r,C0e n s=some r∧C33 s r∧C3f s r:=(F16.and C2w).up fun n ⟨h1,h2⟩ s hs=>by
 have z0:E0.size≤1048576:=by decide
 have e0:C0e (n+1) s=(bif s.toList==D4h.toList then F0v n s 0 0 E0 else bif s.toList==D63.toList then(bif s.toList==D63.toList then F0v n s 1 1 E0 else F0v n s 1 0 E0)
  else bif s.toList==D43.toList then(bif s.toList==D63.toList then F0v n s 1 1 E0 else F0v n s 1 0 E0)else E5i n s):=rfl
 rw[e0,B2p,B2p,B2p]
 by_cases c1:s=D4h
 ·rw[zD c1,zB]
  obtain⟨r,a1,a2,a3⟩:=D8y h2 s 0 0 E0 z0
  refine⟨r,a1,a2,fun w hw h=>a3 w hw h ?_⟩
  rcases B9c hw h with⟨e1,e2⟩|⟨e1,e2⟩|⟨e1,e2⟩|⟨e1,e2,e3⟩|⟨e1,e2,e3⟩
  ·exact e1
  ·rw[c1]at e2;exact absurd e2 (by decide)
  ·rw[c1]at e2;exact absurd e2 (by decide)
  ·have f:=C7g e2
   rw[←e3,c1]at f;exact absurd f (by decide)
  ·have f:=(C1q w.2.2).2.1
   rw[←e3,c1]at f;exact absurd f (by decide)
 ·rw[zK c1,zA]
  by_cases c2:s=D63
  ·rw[zD c2,zB,zB]
   obtain⟨r,a1,a2,a3⟩:=D8y h2 s 1 1 E0 z0
   refine⟨r,a1,a2,fun w hw h=>a3 w hw h ?_⟩
   rcases B9c hw h with⟨e1,e2⟩|⟨e1,e2⟩|⟨e1,e2⟩|⟨e1,e2,e3⟩|⟨e1,e2,e3⟩
   ·exact absurd e2 c1
   ·exact e1
   ·rw[c2]at e2;exact absurd e2 (by decide)
   ·have f:=C7g e2
    rw[←e3,c2]at f;exact absurd f (by decide)
   ·have f:=(C1q w.2.2).2.1
    rw[←e3,c2]at f;exact absurd f (by decide)
  ·rw[zK c2,zA]
   by_cases c3:s=D43
   ·rw[zD c3,zB,zA]
    obtain⟨r,a1,a2,a3⟩:=D8y h2 s 1 0 E0 z0
    refine⟨r,a1,a2,fun w hw h=>a3 w hw h ?_⟩
    rcases B9c hw h with⟨e1,e2⟩|⟨e1,e2⟩|⟨e1,e2⟩|⟨e1,e2,e3⟩|⟨e1,e2,e3⟩
    ·exact absurd e2 c1
    ·exact absurd e2 c2
    ·exact e1
    ·have f:=C7g e2
     rw[←e3,c3]at f;exact absurd f (by decide)
    ·have f:=(C1q w.2.2).2.1
     rw[←e3,c3]at f;exact absurd f (by decide)
   ·rw[zK c3,zA]
    obtain⟨r,a1,a2,a3,a4⟩:=h1 s hs
    refine⟨r,a1,a2,fun w hw h=>?_⟩
    rcases B9c hw h with⟨e1,e2⟩|⟨e1,e2⟩|⟨e1,e2⟩|⟨e1,e2,e3⟩|⟨e1,e2,e3⟩
    ·exact absurd e2 c1
    ·exact absurd e2 c2
    ·exact absurd e2 c3
    ·rw[e1];exact a3 _ e2 e3
    ·rw[e1];exact a4 _ e2 e3
theorem F74 {s:ByteArray}{r:B3u×(Bool×Unit)}(h:C33 s r):B88 1048576 r.1:=by
 have z0:E0.size≤1048576:=by decide
 rcases h with h|⟨v,a,b,c⟩
 ·rw[h];exact z0
 ·rw[c]
  show v.2.2.size≤1048576
  rcases B9c a b with⟨e,_⟩|⟨e,_⟩|⟨e,_⟩|⟨e,_⟩|⟨_,e,_⟩
  ·rw[e];exact z0
  ·rw[e];exact z0
  ·rw[e];exact z0
  ·rw[e];exact z0
  ·omega
def nl:ByteArray:=⟨#[10]⟩
theorem D4d:nl.size=1:=rfl
def D3w {α:Type}(g:α→ByteArray):ByteArray→List α→ByteArray
 |acc,[]=>acc
 |acc,r::t=>D3w g (acc++g r++nl) t
theorem D6x {α:Type}(g:α→ByteArray)(b:Nat):∀(l:List α) (acc:ByteArray),(∀x∈l,(g x).size≤b)→(D3w g acc l).size≤acc.size+(b+1)*l.length
 |[],acc,_=>by simp[D3w]
 |x::t,acc,h=>by
  have h1:=h x (zM ..)
  have ih:=D6x g b t (acc++g x++nl) (fun y hy=>h y (zF _ hy))
  simp only[ByteArray.size_append,D4d]at ih
  simp only[D3w,zW,Nat.mul_succ];omega
theorem E1o {α T:Type}(l:List α)(g:α→ByteArray)(b M:Nat)(hg:∀x∈l,(g x).size≤b)(L:Nat→Nat→ByteArray→T)(K:ByteArray→T)(hexit:∀j acc,L (j+1) l.length acc=K acc)
  (hstep:∀j k acc (h:k<l.length),acc.size≤M→L (j+1) k acc=L j (k+1) (acc++g l[k]++nl)):
  ∀(t:List α) (j k:Nat) (acc:ByteArray),l.drop k=t→k≤l.length→t.length<j→acc.size+(b+1)*t.length≤M→L j k acc=K (D3w g acc t)
 |[],j+1,k,acc,hd,hk,_,ha=>by
  have:k=l.length:=by
   rcases zE1 k l.length with h'|h'
   ·rw[zC1 h']at hd;cases hd
   ·omega
  subst this;rw[hexit];rfl
 |x::t,j+1,k,acc,hd,hk,hj,ha=>by
  obtain⟨h2,h3,h4⟩:=B32 hd x
  have hx:l[k]=x:=by simpa[List.getD,h2]using h3
  have hs:(g x).size≤b:=hg x (by rw[←hx];exact zL h2)
  simp only[zW,Nat.mul_succ]at ha
  rw[hstep j k acc h2 (by omega),hx]
  exact E1o l g b M hg L K hexit hstep t j (k+1) _ h4 (by omega) (by simp at hj;omega) (by simp only[ByteArray.size_append,D4d];omega)
def C1j (t:B25)(r:B2g):B3t:=(1,(t.1,([],(r,B41))))
def C34 (t:B25):B3a:=(1,(t.1,(t.2.1,(t.2.2,(E0,E0)))))
theorem E43 {t:B25}(h:B2y 1048576 t):B7v 1048576 (C34 t):=⟨h.1,h.2.1,h.2.2,Nat.zero_le _,Nat.zero_le _⟩
theorem F7r:B50 1048576 []:=⟨Nat.zero_le _,fun x hx=>by cases hx⟩
theorem C0v:B7v 1048576 B41:=⟨Nat.zero_le _,⟨Nat.zero_le _,fun x hx=>by cases hx⟩,⟨Nat.zero_le _,fun x hx=>by cases hx⟩,Nat.zero_le _,Nat.zero_le _⟩
theorem F4i {t:B25}{r:B2g}(h:B2y 1048576 t)(hr:B50 1048576 r):B8y 1048576 (C1j t r):=⟨h.1,F7r,hr,C0v⟩
theorem D90 {d:B3a}(hs:B7v 1048576 d):(B2w d).size≤80000000020000000:=by
 unfold B2w
 split
 ·rename_i h;exact E51 (F2m hs h)
 ·exact Nat.zero_le _
theorem C77 {t:B25}{r:B2g}(h:B2y 1048576 t)(hr:B50 1048576 r):(B2f (C1j t r)).size≤40000000:=by
 unfold B2f
 split
 ·rename_i hok
  have hv:B6a r=true:=E6f hok rfl
  rw[if_pos (show(C1j t r).1=1 from rfl)]
  have h1:t.1.size≤1048576:=h.1
  have:=C7o (b:=3200000) ([⟨#[105,110,115,101,114,116]⟩,t.1]++B3f r) 0 E0 (fun x hx=>by
   simp only[zY,List.mem_cons,List.not_mem_nil,or_false]at hx
   rcases hx with(hx|hx)|hx
   ·rw[hx];decide
   ·rw[hx];omega
   ·obtain⟨y,hy,rfl⟩:=List.mem_map.mp hx
    exact C2d (hr.2 y hy))
  have e:E0.size=0:=rfl
  simp only[B6a,zJ,zG]at hv
  have hl:=C8d r
  simp only[List.length_append,zW,zX]at this
  unfold B8p C1j
  simp only
  omega
 ·exact Nat.zero_le _
def dbT (data:B71):List B25→Nat→ByteArray→ByteArray
 |[],_,acc=>acc
 |t::r,i,acc=>dbT data r (i+1) (D3w (fun row=>B2f (C1j t row)) (acc++B2w (C34 t)++nl) (data.getD i []))
def B9h (d:B5z):ByteArray:=if B69 d=true then dbT d.2 d.1 0 E0 else E0
theorem C7m {d:B5z}(h:B69 d=true):d.2.length=d.1.length∧d.1.length≤6:=by
 simp only[B69,zJ,zG]at h
 exact⟨h.1.2,(C3i h.1.1).1⟩
theorem E67:EV fun n=>∀d:B5z,B9g 1048576 d→C8y n d.1 d.2=some (B9h d):=(D9e.and (C6t.and (D07.and (EV.gt 1048577)))).up fun n ⟨h1,h2,h3,hn⟩ d hs=>by
 simp only[C8y,h1 d hs,zC,B9h]
 cases hok:B69 d
 ·rfl
 ·obtain⟨tabs,data⟩:=d
  obtain⟨hlen,h6⟩:=C7m hok
  obtain⟨st,sd⟩:=hs
  simp only at hlen h6 st sd⊢
  simp only[zT,zA,if_true]
  have key:∀(t:List B25) (j i:Nat) (acc:ByteArray),tabs.drop i=t→i≤tabs.length→t.length<j→acc.size+90000000000000000*t.length≤1000000000000000000→B5i n j acc tabs (tabs.length:Int) (i:Int) tabs data=some (dbT data t i acc):=by
   intro t
   induction t with
   |nil=>
    intro j i acc hd hk hj ha
    obtain⟨j,rfl⟩:∃i,j=i+1:=⟨j - 1,by simp at hj;omega⟩
    have:i=tabs.length:=by
     rcases zE1 i tabs.length with h'|h'
     ·rw[zC1 h']at hd;cases hd
     ·omega
    subst this
    simp only[B5i,A7d,zP,zH,zA];rfl
   |cons x t ih=>
    intro j i acc hd hk hj ha
    obtain⟨j,rfl⟩:∃i,j=i+1:=⟨j - 1,by simp at hj;omega⟩
    obtain⟨g2,e3,g4⟩:=B32 hd x
    have ex:tabs[i]=x:=by simpa[List.getD,g2]using e3
    have sx:B2y 1048576 x:=st.2 x (by rw[←ex];exact zL g2)
    have gd:i<data.length:=by omega
    have sr:B3x 1048576 data[i]:=sd.2 _ (zL gd)
    have d1:R2 n (1:Int) x.1 x.2.1 x.2.2 E0 E0=some (B2w (C34 x)):=h2 (C34 x) (E43 sx)
    have z1:=D90 (E43 sx)
    have lr:=sr.1
    have hg:∀r∈data[i],(B2f (C1j x r)).size≤40000000:=fun r hr=>C77 sx (sr.2 r hr)
    simp only[zW]at ha hj
    have zn:ByteArray.size ⟨#[10]⟩=1:=rfl
    simp only[B5i,A7d,zD g2,R1 g2,R1 gd,zE,getD_at g2,getD_at gd,ex,zB,d1,zC]
    rw[zD (show acc.size+(B2w (C34 x)).size≤9223372036854775807 by omega),zB,zD (show(acc++B2w (C34 x)).size+ByteArray.size ⟨#[10]⟩≤9223372036854775807 by rw[ByteArray.size_append];omega),zB]
    refine(E1o data[i] (fun r=>B2f (C1j x r)) 40000000 2000000000000000000 hg (fun jj k acc=>C00 n (fun y29 y30 y31 y32 y33 y34=>B5i n j y29 y30 y31 y32 y33 y34) jj acc tabs (tabs.length:Int) (i:Int) data[i] (data[i].length:Int) (k:Int) tabs data x.1 x.2.1 x.2.2)
     (fun acc=>B5i n j acc tabs (tabs.length:Int) (IntKind.wrap .i64 ((i:Int)+1)) tabs data) (fun j' acc=>?_) (fun j' k acc hk ha=>?_) data[i] n 0 (acc++B2w (C34 x)++nl) rfl (by omega) (by omega) (by simp only[ByteArray.size_append,D4d];omega)).trans ?_
    ·simp only[C00,A7d,zP,zH,zA]
    ·have hr:B50 1048576 data[i][k]:=sr.2 _ (zL hk)
     have d2:B4p n (1:Int) x.1 [] data[i][k] (0:Int) E0 [] [] E0 E0=some (B2f (C1j x data[i][k])):=h3 (C1j x data[i][k]) (F4i sx hr)
     have z2:=C77 sx hr
     simp only[C00,A7d,zD hk,R1 hk,zE,getD_at hk,zB,B26 hk (by omega),d2,zC]
     rw[zD (show acc.size+(B2f (C1j x data[i][k])).size≤9223372036854775807 by omega),zB,zD (show(acc++B2f (C1j x data[i][k])).size+ByteArray.size ⟨#[10]⟩≤9223372036854775807 by rw[ByteArray.size_append];omega),zB];rfl
    ·have zr:=D6x (fun r=>B2f (C1j x r)) 40000000 data[i] (acc++B2w (C34 x)++nl) hg
     simp only[ByteArray.size_append,D4d]at zr
     rw[B26 g2 (by omega)]
     refine(ih j (i+1) _ g4 (by omega) (by omega) ?_).trans ?_
     ·show(D3w (fun r=>B2f (C1j x r)) (acc++B2w (C34 x)++nl) data[i]).size+_≤_
      omega
     ·simp only[dbT,getD_at gd]
  exact key tabs n 0 E0 rfl (by omega) (by omega) (by have:E0.size=0:=rfl;omega)
theorem E32:EV fun n=>∀x:B25,B2y 1048576 x→C75 n x.1 x.2.1 x.2.2=some (C34 x):=C4b.up fun n h x hs=>by
 simp only[C75,h x hs,zC];rfl
theorem E5j:EV fun n=>∀d:B5z,B9g 1048576 d→C8p n d.1 d.2=some (B9h d):=(F14.and (C6r.and (C9w.and (E32.and (EV.gt 1048577))))).up fun n ⟨h1,h2,h3,h4,hn⟩ d hs=>by
 simp only[C8p,h1 d hs,zC,B9h]
 cases hok:B69 d
 ·rfl
 ·obtain⟨tabs,data⟩:=d
  obtain⟨hlen,h6⟩:=C7m hok
  obtain⟨st,sd⟩:=hs
  simp only at hlen h6 st sd⊢
  simp only[zT,zA,if_true]
  have key:∀(t:List B25) (j i:Nat) (acc:ByteArray),tabs.drop i=t→i≤tabs.length→t.length<j→acc.size+90000000000000000*t.length≤1000000000000000000→B5f n j acc tabs (tabs.length:Int) (i:Int) tabs data=some (dbT data t i acc):=by
   intro t
   induction t with
   |nil=>
    intro j i acc hd hk hj ha
    obtain⟨j,rfl⟩:∃i,j=i+1:=⟨j - 1,by simp at hj;omega⟩
    have:i=tabs.length:=by
     rcases zE1 i tabs.length with h'|h'
     ·rw[zC1 h']at hd;cases hd
     ·omega
    subst this
    simp only[B5f,A7d,zP,zH,zA];rfl
   |cons x t ih=>
    intro j i acc hd hk hj ha
    obtain⟨j,rfl⟩:∃i,j=i+1:=⟨j - 1,by simp at hj;omega⟩
    obtain⟨g2,e3,g4⟩:=B32 hd x
    have ex:tabs[i]=x:=by simpa[List.getD,g2]using e3
    have sx:B2y 1048576 x:=st.2 x (by rw[←ex];exact zL g2)
    have gd:i<data.length:=by omega
    have sr:B3x 1048576 data[i]:=sd.2 _ (zL gd)
    have d1:=h2 (C34 x) (E43 sx)
    have z1:=D90 (E43 sx)
    have lr:=sr.1
    have hg:∀r∈data[i],(B2f (C1j x r)).size≤40000000:=fun r hr=>C77 sx (sr.2 r hr)
    simp only[zW]at ha hj
    have zn:ByteArray.size ⟨#[10]⟩=1:=rfl
    simp only[B5f,A7d,zD g2,R1 g2,R1 gd,zE,getD_at g2,getD_at gd,ex,zB,h4 x sx,d1,zC]
    rw[zD (show acc.size+(B2w (C34 x)).size≤9223372036854775807 by omega),zB,zD (show(acc++B2w (C34 x)).size+ByteArray.size ⟨#[10]⟩≤9223372036854775807 by rw[ByteArray.size_append];omega),zB]
    refine(E1o data[i] (fun r=>B2f (C1j x r)) 40000000 2000000000000000000 hg (fun jj k acc=>B9k n (fun y29 y30 y31 y32 y33 y34=>B5f n j y29 y30 y31 y32 y33 y34) jj acc tabs (tabs.length:Int) (i:Int) data[i] (data[i].length:Int) (k:Int) tabs data x.1 x.2.1 x.2.2)
     (fun acc=>B5f n j acc tabs (tabs.length:Int) (IntKind.wrap .i64 ((i:Int)+1)) tabs data) (fun j' acc=>?_) (fun j' k acc hk ha=>?_) data[i] n 0 (acc++B2w (C34 x)++nl) rfl (by omega) (by omega) (by simp only[ByteArray.size_append,D4d];omega)).trans ?_
    ·simp only[B9k,A7d,zP,zH,zA]
    ·have hr:B50 1048576 data[i][k]:=sr.2 _ (zL hk)
     have d2:B4m n (1:Int) x.1 [] data[i][k] (0:Int) E0 [] [] E0 E0=some (B2f (C1j x data[i][k])):=h3 (C1j x data[i][k]) (F4i sx hr)
     have z2:=C77 sx hr
     simp only[B9k,A7d,zD hk,R1 hk,zE,getD_at hk,zB,B26 hk (by omega),d2,zC]
     rw[zD (show acc.size+(B2f (C1j x data[i][k])).size≤9223372036854775807 by omega),zB,zD (show(acc++B2f (C1j x data[i][k])).size+ByteArray.size ⟨#[10]⟩≤9223372036854775807 by rw[ByteArray.size_append];omega),zB];rfl
    ·have zr:=D6x (fun r=>B2f (C1j x r)) 40000000 data[i] (acc++B2w (C34 x)++nl) hg
     simp only[ByteArray.size_append,D4d]at zr
     rw[B26 g2 (by omega)]
     refine(ih j (i+1) _ g4 (by omega) (by omega) ?_).trans ?_
     ·show(D3w (fun r=>B2f (C1j x r)) (acc++B2w (C34 x)++nl) data[i]).size+_≤_
      omega
     ·simp only[dbT,getD_at gd]
  exact key tabs n 0 E0 rfl (by omega) (by omega) (by have:E0.size=0:=rfl;omega)
def D1x (s:ByteArray)(c:Int):List UInt8→Nat→Nat→List ByteArray→List ByteArray
 |[],k,f,acc=>acc++[s.extract f k]
 |b::t,k,f,acc=>if(b.toNat:Int)=c then D1x s c t (k+1) (k+1) (acc++[s.extract f k])else D1x s c t (k+1) f acc
def B2v (s:ByteArray)(c:Int):List ByteArray:=D1x s c s.data.toList 0 0 []
theorem D09:EV fun n=>∀(s:ByteArray) (c:Int),s.size≤1048576→C2s n s c=some (B2v s c):=(EV.gt 1048577).up fun n hn s c hs=>by
 have loop:∀(t:List UInt8) (j k f:Nat) (acc:List ByteArray),s.data.toList.drop k=t→k≤s.size→f≤k→t.length<j→acc.length≤k→B65 n j s c (f:Int) (k:Int) acc=some (D1x s c t k f acc):=by
  intro t
  induction t with
  |nil=>
   intro j k f acc hd hk hf hj ha
   obtain⟨j,rfl⟩:∃i,j=i+1:=⟨j - 1,by simp at hj;omega⟩
   have:k=s.size:=by
    rcases zE1 k s.size with h'|h'
    ·rw[zC1 (by rw[B3v];exact h')]at hd;cases hd
    ·omega
   subst this
   simp only[B65,A7d,zP,zH,zA,zE]
   rw[zD (by omega),zB,C1r (by simp;omega)];rfl
  |cons b t ih=>
   intro j k f acc hd hk hf hj ha
   obtain⟨j,rfl⟩:∃i,j=i+1:=⟨j - 1,by simp at hj;omega⟩
   obtain⟨h2,h3⟩:=D0c hd
   have h4:=(B32 hd 0).2.2
   simp only[zW]at hj
   simp only[B65,A7d,zD h2,R1 h2,zB,h3,B31,B26 h2 (by omega),zE,D1x]
   by_cases e:(b.toNat:Int)=c
   ·rw[zD e,if_pos e,zB,zD (by omega),zB,C1r (by simp;omega),zB]
    exact ih j (k+1) (k+1) _ h4 (by omega) (by omega) (by omega) (by simp;omega)
   ·rw[zK e,if_neg e,zA]
    exact ih j (k+1) f acc h4 (by omega) (by omega) (by omega) (by omega)
 rw[C2s]
 exact loop s.data.toList n 0 0 [] rfl (by omega) (by omega) (by rw[B3v];omega) (by simp)
theorem E20:EV fun n=>∀(s:ByteArray) (c:Int),s.size≤1048576→D3r n s c=some (B2v s c):=(EV.gt 1048577).up fun n hn s c hs=>by
 have loop:∀(t:List UInt8) (j k f:Nat) (acc:List ByteArray),s.data.toList.drop k=t→k≤s.size→f≤k→t.length<j→acc.length≤k→C1o n j s c (f:Int) (k:Int) acc=some (D1x s c t k f acc):=by
  intro t
  induction t with
  |nil=>
   intro j k f acc hd hk hf hj ha
   obtain⟨j,rfl⟩:∃i,j=i+1:=⟨j - 1,by simp at hj;omega⟩
   have:k=s.size:=by
    rcases zE1 k s.size with h'|h'
    ·rw[zC1 (by rw[B3v];exact h')]at hd;cases hd
    ·omega
   subst this
   simp only[C1o,A7d,zP,zH,zA,zE]
   rw[zD (by omega),zB,C1r (by simp;omega)];rfl
  |cons b t ih=>
   intro j k f acc hd hk hf hj ha
   obtain⟨j,rfl⟩:∃i,j=i+1:=⟨j - 1,by simp at hj;omega⟩
   obtain⟨h2,h3⟩:=D0c hd
   have h4:=(B32 hd 0).2.2
   simp only[zW]at hj
   simp only[C1o,A7d,zD h2,R1 h2,zB,h3,B31,B26 h2 (by omega),zE,D1x]
   by_cases e:(b.toNat:Int)=c
   ·rw[zD e,if_pos e,zB,zD (by omega),zB,C1r (by simp;omega),zB]
    exact ih j (k+1) (k+1) _ h4 (by omega) (by omega) (by omega) (by simp;omega)
   ·rw[zK e,if_neg e,zA]
    exact ih j (k+1) f acc h4 (by omega) (by omega) (by omega) (by omega)
 rw[D3r]
 exact loop s.data.toList n 0 0 [] rfl (by omega) (by omega) (by rw[B3v];omega) (by simp)
theorem D62:EV fun n=>∀s:ByteArray,s.size≤1048576→C89 n s=some (B2v s 32):=D09.up fun n h s hs=>by simp only[C89,h s 32 hs,zC]
theorem D5x:EV fun n=>∀s:ByteArray,s.size≤1048576→C7t n s=some (B2v s 32):=E20.up fun n h s hs=>by simp only[C7t,h s 32 hs,zC]
theorem C9c:EV fun n=>∀(l:B2i) (s:ByteArray),l.length≤1048576→C5g n l s=some (idx (fun t=>decide (t.1=s)) l):=(EV.gt 1048577).up fun n hn l s hl=>by
 rw[C5g]
 refine B7i (fun t=>decide (t.1=s)) l (fun j k=>C1a n j s l (l.length:Int) (k:Int)) (fun j=>?_) (fun j k hk=>?_) l n 0 rfl (by omega) (by omega)
 ·simp only[C1a,A7d,zP,zH,zA]
 ·simp only[C1a,A7d,zD hk,R1 hk,zE,getD_at hk,zB,B26 hk (by omega),B2p]
  exact B7h _ _
theorem D08:EV fun n=>∀x:B25,B2y 1048576 x→C2r n x.1 x.2.1 x.2.2=some x:=EV.true.up fun n _ x hs=>by
 have h1:=hs.2.1.1
 have h2:=hs.2.2.1
 have r1:room (([]:B2x).length+x.2.1.length) 64=true:=by simp only[room,zG,zX];omega
 have r2:room (([]:List ByteArray).length+x.2.2.length) 16=true:=by simp only[room,zG,zX];omega
 simp only[C2r,r1,r2,zB,List.nil_append]
theorem C43:EV fun n=>∀(l:B2i) (s:ByteArray),l.length≤1048576→C07 n l s=some (idx (fun t=>decide (t.1=s)) l):=by
 have h0:EV fun n=>∀(l:B2i) (s:ByteArray),l.length≤1048576→B35 n l s=some (idx (fun t=>decide (t.1=s)) l):=(((EV.gt 0).up (q:=fun n=>∀(t:B25) (s:ByteArray),C5m n t.1 t.2.1 t.2.2 s=some (decide (t.1=s))) fun n _ t s=>by simp only[C5m,B2p]).and (EV.gt 1048577)).up fun n ⟨h,hn⟩ l s hl=>by
  rw[B35]
  refine B7i (fun t=>decide (t.1=s)) l (fun j k=>B2j n j l s (l.length:Int) (k:Int)) (fun j=>?_) (fun j k hk=>?_) l n 0 rfl (by omega) (by omega)
  ·simp only[B2j,A7d,zP,zH,zA]
  ·simp only[B2j,A7d,zD hk,R1 hk,zE,getD_at hk,zB,B26 hk (by omega),h,zC]
   exact B7h _ _
 exact h0.up fun n h l s hl=>by simp only[C07,h l s hl,zC]
def C7a:B25:=(E0,([],[]))
theorem C8a:EV fun n=>∀r:B2g,r.length≤1048576→B7g n r=some r:=EV.true.up fun n _ r hr=>by
 have r1:room r.length 32=true:=by simp only[room,zG];omega
 have r2:room (([]:B2g).length+r.length) 32=true:=by simp only[room,zG,zX];omega
 simp[B7g,r1]
theorem D1p:EV fun n=>∀l:B2q,B3x 1048576 l→C27 n l=some l:=(C8a.and (EV.gt 1048577)).up fun n ⟨h,hn⟩ l hs=>by
 have hl:=hs.1
 simp only[C27]
 refine(C4j l id (fun j k acc=>B8i n j l (l.length:Int) (k:Int) acc) (fun j acc=>?_) (fun j k acc hk ha=>?_) l n 0 [] rfl (by omega) (by omega) rfl).trans (by simp)
 ·simp only[B8i,A7d,zP,zH,zA]
 ·have e:=h l[k] (hs.2 _ (zL hk)).1
  have r3:∀x:B2g,room (acc.length+[x].length) 24=true:=fun x=>by simp only[room,zG,zW,zX];omega
  simp only[B8i,A7d,zD hk,R1 hk,zE,getD_at hk,zB,B26 hk (by omega),e,zC,r3,id]
theorem C9x:EV fun n=>∀r:B2g,r.length≤1048576→C12 n r=some r:=EV.true.up fun n _ r hr=>by
 have r1:room r.length 32=true:=by simp only[room,zG];omega
 have r2:room (([]:B2g).length+r.length) 32=true:=by simp only[room,zG,zX];omega
 simp[C12,r1]
theorem B9o:EV fun n=>∀l:B2q,B3x 1048576 l→B5d n l=some l:=(C9x.and (EV.gt 1048577)).up fun n ⟨h,hn⟩ l hs=>by
 have hl:=hs.1
 simp only[B5d]
 refine(C4j l id (fun j k acc=>B7k n j l (l.length:Int) (k:Int) acc) (fun j acc=>?_) (fun j k acc hk ha=>?_) l n 0 [] rfl (by omega) (by omega) rfl).trans (by simp)
 ·simp only[B7k,A7d,zP,zH,zA]
 ·have e:=h l[k] (hs.2 _ (zL hk)).1
  have r3:∀x:B2g,room (acc.length+[x].length) 24=true:=fun x=>by simp only[room,zG,zW,zX];omega
  simp only[B7k,A7d,zD hk,R1 hk,zE,getD_at hk,zB,B26 hk (by omega),e,zC,r3,id]
theorem F0x (s:ByteArray)(c:Int):∀(t:List UInt8) (k f:Nat) (acc:List ByteArray),s.size≤1048576→(∀x∈acc,x.size≤1048577)→acc.length+t.length≤1048576→B3w 1048577 (D1x s c t k f acc)
 |[],k,f,acc,hs,ha,hl=>by
  refine⟨by simp[D1x];simp at hl;omega,fun x hx=>?_⟩
  rcases zY.mp hx with hx|hx
  ·exact ha x hx
  ·simp at hx;subst hx;simp only[ByteArray.size_extract];omega
 |b::t,k,f,acc,hs,ha,hl=>by
  simp only[D1x]
  simp only[zW]at hl
  split
  ·refine F0x s c t _ _ _ hs (fun x hx=>?_) (by simp;omega)
   rcases zY.mp hx with hx|hx
   ·exact ha x hx
   ·simp at hx;subst hx;simp only[ByteArray.size_extract];omega
  ·exact F0x s c t _ _ _ hs ha (by omega)
theorem F7e {s:ByteArray}(c:Int)(hs:s.size≤1048576):B3w 1048577 (B2v s c):=F0x s c _ 0 0 [] hs (by simp) (by rw[B3v];simpa using hs)
theorem F3b {cs:B2x}:∀{ks:B43} {last:Int},(runs (B4s cs) ks last).isSome=true→ -1≤last→last<(cs.length:Int)→last+(ks.length:Int)<(cs.length:Int)
 |[],last,_,_,h=>by simpa using h
 |x::t,last,h,hl,h2=>by
  simp only[runs,B4s]at h
  split at h
  ·rename_i hc
   have i2:B2a cs x<(cs.length:Int):=(C1m _ _).2
   have:=F3b (ks:=t) (last:=B2a cs x) h (by omega) i2
   simp only[zW]
   omega
  ·simp at h
theorem F6l {x:B25}(h:B2d x=true):x.2.2.length≤8∧x.2.1.length≤8:=by
 simp only[B2d,zJ,zG]at h
 obtain⟨⟨⟨⟨_,h1⟩,h2⟩,_⟩,h3⟩:=h
 have:=F3b h3 (by omega) (by omega)
 omega
noncomputable def cTV (s:ByteArray):B3u×(Bool×Unit):=@dite _ (∃r,C33 s r∧C3f s r) (Classical.propDecidable _) (fun h=>h.choose) fun _=>((0,(0,E0)),(false,()))
theorem F0t {s:ByteArray}{r:B3u×(Bool×Unit)}(h1:C33 s r)(h2:C3f s r):cTV s=r:=by
 have h:∃r,C33 s r∧C3f s r:=⟨r,h1,h2⟩
 unfold cTV
 rw[dif_pos h]
 exact F5c h.choose_spec.1 h.choose_spec.2 h1 h2
theorem D40:EV fun n=>∀s:ByteArray,s.size≤1048576→C0i n s=some (cTV s):=E37.mono fun n h s hs=>by
 obtain⟨r,e,h1,h2⟩:=h s hs
 rw[e,F0t h1 h2]
theorem D3p:EV fun n=>∀s:ByteArray,s.size≤1048576→C0e n s=some (cTV s):=C6s.mono fun n h s hs=>by
 obtain⟨r,e,h1,h2⟩:=h s hs
 rw[e,F0t h1 h2]
theorem F80:EV fun n=>∀s:ByteArray,s.size≤1048576→B88 1048576 (cTV s).1:=C6s.mono fun n h s hs=>by
 obtain⟨r,e,h1,h2⟩:=h s hs
 rw[F0t h1 h2];exact F74 h1
theorem EV.get {p:Nat→Prop}(h:EV p):∃n,p n:=by obtain⟨N,h⟩:=h;exact⟨N,h N (Nat.le_refl _)⟩
theorem E0q {s:ByteArray}(hs:s.size≤1048576):B88 1048576 (cTV s).1:=by
 obtain⟨n,h⟩:=F80.get;exact h s hs
def C1k:List ByteArray:=[(⟨#[]⟩:ByteArray),(⟨#[98,111,111,108]⟩:ByteArray),(⟨#[105,110,116]⟩:ByteArray),(⟨#[116,101,120,116]⟩:ByteArray)]
def E9o:ByteArray:=⟨#[110,111,116]⟩
def F17 (w:ByteArray):Bool:=decide (0<w.size)&&decide (bt w 0=61)
noncomputable def B8v (w:ByteArray)(f:Bool×(Bool×B3u)):Bool×(Bool×B3u):=if w=E9o then(true,f.2)else if F17 w=true then(f.1,(true,(cTV (w.extract 1 w.size)).1))else f
noncomputable def flags (l:List ByteArray):Bool×(Bool×B3u):=l.foldl (fun f w=>B8v w f) (false,(false,(0,(0,E0))))
noncomputable def C2e (ty:ByteArray→Int)(ws:List ByteArray):B4j:=if ws.length<2 then(E0,(0,(false,(false,(0,(0,E0))))))else(ws.getD 0 E0,(ty (ws.getD 1 E0),flags (ws.drop 2)))
def tyS (w:ByteArray):Int:=if w=C1k.getD 3 E0 then 3 else if w=C1k.getD 2 E0 then 2 else if w=C1k.getD 1 E0 then 1 else 0
def tyI (w:ByteArray):Int:=idx (fun t=>decide (w=t)) C1k
theorem D4f {α S:Type}(g:α→S→S):∀(l:List α) (s:S),runs (fun x s=>some (g x s)) l s=some (l.foldl (fun s x=>g x s) s)
 |[],s=>rfl
 |x::t,s=>by simp only[runs,zC,List.foldl_cons];exact D4f g t _
theorem E5r (w:ByteArray):(F17 w=true∧decide ((0:Int)<(w.size:Int))=true∧inR (0:Int) w.size=true∧(bt w 0==(61:Int))=true∧decide (0≤(1:Int)∧(1:Int)≤((w.size:Nat):Int)∧((w.size:Nat):Int)≤(w.size:Int))=true)∨
  (F17 w=false∧decide ((0:Int)<(w.size:Int))=true∧inR (0:Int) w.size=true∧(bt w 0==(61:Int))=false)∨(F17 w=false∧decide ((0:Int)<(w.size:Int))=false):=by
 by_cases h:0<w.size
 ·have e1:decide ((0:Int)<(w.size:Int))=true:=by simp;omega
  have e2:inR (0:Int) w.size=true:=R1 (k:=0) h
  have e3:decide (0≤(1:Int)∧(1:Int)≤((w.size:Nat):Int)∧((w.size:Nat):Int)≤(w.size:Int))=true:=by simp;omega
  by_cases hb:bt w 0=61
  ·exact .inl ⟨by simp[F17,h,hb],e1,e2,by simp[hb],e3⟩
  ·exact .inr (.inl ⟨by simp[F17,hb],e1,e2,by simp[hb]⟩)
 ·exact .inr (.inr ⟨by simp[F17,h],zK (by omega)⟩)
theorem C8c:EV fun n=>∀ws:List ByteArray,B3w 1048577 ws→B8l n ws=some (C2e tyS ws):=(D40.and ((EV.gt 1048578).and (EV.of (p:=fun n=>B9b (n+1)=some C1k) fun n=>rfl))).up fun n ⟨hT,hn,_⟩ ws hs=>by
 have hl:=hs.1
 have loop:∀(l:List ByteArray) (y1:ByteArray) (y2:Int) (y3 y4:Bool) (y5 y6:Int) (y7 nm:ByteArray) (ty:Int) (f:Bool×(Bool×B3u)),l.length≤1048577→(∀w∈l,w.size≤1048577)→
   B42 n n l (l.length:Int) (0:Int) y1 y2 y3 y4 y5 y6 y7 nm ty f.1 f.2.1 f.2.2.1 f.2.2.2.1 f.2.2.2.2=some (nm,(ty,l.foldl (fun f w=>B8v w f) f)):=by
  intro l y1 y2 y3 y4 y5 y6 y7 nm ty f hl hb
  refine(D04 l (fun w f=>some (B8v w f)) (fun j k (f:Bool×(Bool×B3u))=>B42 n j l (l.length:Int) (k:Int) y1 y2 y3 y4 y5 y6 y7 nm ty f.1 f.2.1 f.2.2.1 f.2.2.2.1 f.2.2.2.2) (fun f=>some (nm,(ty,f))) none (fun _=>True) (fun _ _ _ _ _ _=>trivial)
   (fun j f _=>by simp only[B42,A7d,zP,zH,zA]) (fun j k f hk _=>?_) l n 0 f rfl (by omega) (by omega) trivial).trans (by rw[D4f];rfl)
  have hw:=hb _ (zL hk)
  simp only[B42,A7d,zD hk,R1 hk,zE,getD_at hk,zB,B26 hk (by omega),B2p]
  generalize l[k]=w at hw⊢
  have hx:(w.extract 1 w.size).size≤1048576:=by rw[ByteArray.size_extract];omega
  by_cases h1:w=E9o
  ·subst h1
   have:decide (E9o=(⟨#[110,111,116]⟩:ByteArray))=true:=zD rfl
   simp[after,B8v,this]
  ·have:decide (w=(⟨#[110,111,116]⟩:ByteArray))=false:=zK h1
   rw[this]
   simp only[zA,after,B8v,if_neg h1]
   rcases E5r w with⟨a,b,c,d,e⟩|⟨a,b,c,d⟩|⟨a,b⟩
   ·rw[b,c,d,e,a];simp only[zB,zE,show(1:Int).toNat=1 from rfl,hT _ hx,zC,if_true]
   ·rw[b,c,d,a];simp
   ·rw[b,a];simp
 obtain⟨m,rfl⟩:∃m,n=m+5:=⟨n - 5,by omega⟩
 rw[B8l]
 unfold C2e
 by_cases h2:ws.length<2
 ·have:decide ((ws.length:Int)<(2:Int))=true:=by simp;omega
  simp only[this,zB,h2,if_true]
 ·have e1:decide ((ws.length:Int)<(2:Int))=false:=by simp;omega
  have e2:inR (0:Int) ws.length=true:=R1 (k:=0) (by omega)
  have e3:inR (1:Int) ws.length=true:=R1 (k:=1) (by omega)
  have e4:decide (0≤(2:Int)∧(2:Int)≤((ws.length:Nat):Int)∧((ws.length:Nat):Int)≤(ws.length:Int))=true:=by simp;omega
  have e5:B9b (m+5)=some C1k:=rfl
  have hdrop:(∀w∈ws.drop 2,w.size≤1048577):=fun w hw=>hs.2 w (List.mem_of_mem_drop hw)
  simp only[e1,e2,e5,zB,zA,zC,if_neg h2]
  have g0:∀(k:Nat),k<4→decide ((k:Int)<((C1k.length:Nat):Int))=true:=fun k hk=>by simp[C1k];omega
  have g1:∀(k:Nat),k<4→inR (k:Int) C1k.length=true:=fun k hk=>R1 hk
  have w1:IntKind.wrap .i64 ((0:Int)+(1:Int))=1:=by decide
  have w2:IntKind.wrap .i64 ((1:Int)+(1:Int))=2:=by decide
  have w3:IntKind.wrap .i64 ((2:Int)+(1:Int))=3:=by decide
  have w4:IntKind.wrap .i64 ((3:Int)+(1:Int))=4:=by decide
  have l2:∀ty:Int,_:=fun ty=>loop (ws.drop 2) E0 0 false false 0 0 E0 (ws.getD 0 E0) ty (false,(false,(0,(0,E0)))) (by simp;omega) hdrop
  have tk:(ws.take ((ws.length:Nat):Int).toNat).drop (2:Int).toNat=ws.drop 2:=by simp
  simp only[B66,g0 0 (by decide),g1 0 (by decide),show decide ((0:Int)<((C1k.length:Nat):Int))=true from rfl,show decide ((1:Int)<((C1k.length:Nat):Int))=true from rfl,show decide ((2:Int)<((C1k.length:Nat):Int))=true from rfl,show decide ((3:Int)<((C1k.length:Nat):Int))=true from rfl,
   show decide ((4:Int)<((C1k.length:Nat):Int))=false from rfl,show inR (0:Int) C1k.length=true from rfl,show inR (1:Int) C1k.length=true from rfl,show inR (2:Int) C1k.length=true from rfl,show inR (3:Int) C1k.length=true from rfl,show decide ((0:Int)<0)=false from rfl,show decide ((0:Int)<1)=true from rfl,show decide ((0:Int)<2)=true from rfl,show decide ((0:Int)<3)=true from rfl,
   w1,w2,w3,w4,e3,e4,zB,zA,B2p,tk]
  have l2':=fun ty:Int=>l2 ty
  simp only[show((0:Nat):Int)=0 from rfl]at l2'
  have c1:(C1k.getD (1:Int).toNat (⟨#[]⟩:ByteArray)=ws.getD (1:Int).toNat (⟨#[]⟩:ByteArray))=(ws.getD 1 E0=C1k.getD 1 E0):=propext ⟨fun h=>h.symm,fun h=>h.symm⟩
  have c2:(C1k.getD (2:Int).toNat (⟨#[]⟩:ByteArray)=ws.getD (1:Int).toNat (⟨#[]⟩:ByteArray))=(ws.getD 1 E0=C1k.getD 2 E0):=propext ⟨fun h=>h.symm,fun h=>h.symm⟩
  have c3:(C1k.getD (3:Int).toNat (⟨#[]⟩:ByteArray)=ws.getD (1:Int).toNat (⟨#[]⟩:ByteArray))=(ws.getD 1 E0=C1k.getD 3 E0):=propext ⟨fun h=>h.symm,fun h=>h.symm⟩
  simp only[c1,c2,c3]
  unfold tyS
  by_cases h3:ws.getD 1 E0=C1k.getD 3 E0<;>by_cases h2:ws.getD 1 E0=C1k.getD 2 E0<;>by_cases h1:ws.getD 1 E0=C1k.getD 1 E0<;>simp only[h1,h2,h3,zI,zH,zB,zA,if_true,if_false]<;>exact l2' _

theorem D5y:EV fun n=>∀ws:List ByteArray,B3w 1048577 ws→C7u n ws=some (C2e tyI ws):=(D3p.and (EV.gt 1048578)).up fun n ⟨hT,hn⟩ ws hs=>by
 have hl:=hs.1
 have loop:∀(l:List ByteArray) (y1:ByteArray) (y2:Int) (y3 y4:Bool) (y5 y6:Int) (y7 nm:ByteArray) (ty:Int) (f:Bool×(Bool×B3u)),l.length≤1048577→(∀w∈l,w.size≤1048577)→
   B4o n n l (l.length:Int) (0:Int) y1 y2 y3 y4 y5 y6 y7 nm ty f.1 f.2.1 f.2.2.1 f.2.2.2.1 f.2.2.2.2=some (nm,(ty,l.foldl (fun f w=>B8v w f) f)):=by
  intro l y1 y2 y3 y4 y5 y6 y7 nm ty f hl hb
  refine(D04 l (fun w f=>some (B8v w f)) (fun j k (f:Bool×(Bool×B3u))=>B4o n j l (l.length:Int) (k:Int) y1 y2 y3 y4 y5 y6 y7 nm ty f.1 f.2.1 f.2.2.1 f.2.2.2.1 f.2.2.2.2) (fun f=>some (nm,(ty,f))) none (fun _=>True) (fun _ _ _ _ _ _=>trivial)
   (fun j f _=>by simp only[B4o,A7d,zP,zH,zA]) (fun j k f hk _=>?_) l n 0 f rfl (by omega) (by omega) trivial).trans (by rw[D4f];rfl)
  have hw:=hb _ (zL hk)
  simp only[B4o,A7d,zD hk,R1 hk,zE,getD_at hk,zB,B26 hk (by omega),B2p]
  generalize l[k]=w at hw⊢
  have hx:(w.extract 1 w.size).size≤1048576:=by rw[ByteArray.size_extract];omega
  by_cases h1:w=E9o
  ·subst h1
   have:decide (E9o=(⟨#[110,111,116]⟩:ByteArray))=true:=zD rfl
   have d1:decide ((0:Int)<(E9o.size:Int))=true:=by decide
   have d2:inR (0:Int) E9o.size=true:=by decide
   have d3:(bt E9o 0==(61:Int))=false:=by decide
   simp[after,B8v,this,d1,d2,d3]
  ·have:decide (w=(⟨#[110,111,116]⟩:ByteArray))=false:=zK h1
   rw[this]
   simp only[zA,after,B8v,if_neg h1]
   rcases E5r w with⟨a,b,c,d,e⟩|⟨a,b,c,d⟩|⟨a,b⟩
   ·rw[b,c,d,e,a];simp only[zB,zE,show(1:Int).toNat=1 from rfl,hT _ hx,zC,if_true]
   ·rw[b,c,d,a];simp
   ·rw[b,a];simp
 rw[C7u]
 unfold C2e
 by_cases h2:ws.length<2
 ·have:decide ((ws.length:Int)<(2:Int))=true:=by simp;omega
  simp only[this,zB,h2,if_true]
 ·have e1:decide ((ws.length:Int)<(2:Int))=false:=by simp;omega
  have e2:inR (0:Int) ws.length=true:=R1 (k:=0) (by omega)
  have e3:inR (1:Int) ws.length=true:=R1 (k:=1) (by omega)
  have e4:decide (0≤(2:Int)∧(2:Int)≤((ws.length:Nat):Int)∧((ws.length:Nat):Int)≤(ws.length:Int))=true:=by simp;omega
  have hdrop:(∀w∈ws.drop 2,w.size≤1048577):=fun w hw=>hs.2 w (List.mem_of_mem_drop hw)
  have tk:(ws.take ((ws.length:Nat):Int).toNat).drop (2:Int).toNat=ws.drop 2:=by simp
  have hi:B2m n C1k (ws.getD (1:Int).toNat (⟨#[]⟩:ByteArray))=some (tyI (ws.getD 1 E0)):=by
   obtain⟨m,rfl⟩:∃m,n=m+1:=⟨n - 1,by omega⟩
   rw[B2m]
   refine B7i (fun t=>decide (ws.getD 1 E0=t)) C1k (fun j k=>B2e m j C1k (ws.getD 1 E0) (C1k.length:Int) (k:Int)) (fun j=>by simp only[B2e,A7d,zP,zH,zA]) (fun j k hk=>?_) C1k m 0 rfl (by omega) (by simp[C1k];omega)
   have hk4:k<4:=hk
   simp only[B2e,A7d,zD hk,R1 hk,zE,getD_at hk,zB,B26 hk (by simp[C1k]),B2p]
   exact B7h _ _
  have l2:∀ty:Int,_:=fun ty=>loop (ws.drop 2) E0 0 false false 0 0 E0 (ws.getD 0 E0) ty (false,(false,(0,(0,E0)))) (by simp;omega) hdrop
  simp only[e1,e2,e3,e4,zB,zA,if_neg h2,tk,show([(⟨#[]⟩:ByteArray),(⟨#[98,111,111,108]⟩:ByteArray),(⟨#[105,110,116]⟩:ByteArray),(⟨#[116,101,120,116]⟩:ByteArray)]:List ByteArray)=C1k from rfl,hi,zC]
  exact l2 _
theorem E9w {α S:Type}(P:S→Prop)(f:S→α→S):∀(l:List α) (s:S),(∀x∈l,∀s,P s→P (f s x))→P s→P (l.foldl f s)
 |[],s,_,h=>h
 |x::t,s,hf,h=>E9w P f t _ (fun y hy=>hf y (zF _ hy)) (hf x (zM ..) s h)
theorem F5y {l:List ByteArray}(h:∀w∈l,w.size≤1048577):B88 1048576 (flags l).2.2:=by
 refine E9w (fun f:Bool×(Bool×B3u)=>B88 1048576 f.2.2) _ l _ (fun w hw f hf=>?_) (show B88 1048576 (0,(0,E0))from by unfold B88;decide)
 unfold B8v
 split
 ·exact hf
 ·split
  ·exact E0q (by rw[ByteArray.size_extract];have:=h w hw;omega)
  ·exact hf
theorem F8f (w:ByteArray):tyI w=tyS w∨(¬(1≤tyI w∧tyI w≤3)∧¬(1≤tyS w∧tyS w≤3)):=by
 unfold tyI tyS idx
 simp only[C1k,idxFrom,List.getD,zG]
 simp only[List.getElem?_cons_zero,List.getElem?_cons_succ,Option.getD_some]
 by_cases h0:w=(⟨#[]⟩:ByteArray)
 ·subst h0;decide
 ·by_cases h1:w=(⟨#[98,111,111,108]⟩:ByteArray)
  ·subst h1;decide
  ·by_cases h2:w=(⟨#[105,110,116]⟩:ByteArray)
   ·subst h2;decide
   ·by_cases h3:w=(⟨#[116,101,120,116]⟩:ByteArray)
    ·subst h3;decide
    ·simp[h0,h1,h2,h3]
theorem E1x (ws:List ByteArray):C2e tyI ws=C2e tyS ws∨(B3p (C2e tyI ws)=false∧B3p (C2e tyS ws)=false):=by
 unfold C2e
 by_cases h:ws.length<2
 ·left;simp[h]
 ·simp only[if_neg h]
  rcases F8f (ws.getD 1 E0)with e|⟨e1,e2⟩
  ·left;rw[e]
  ·right
   constructor
   ·simp only[B3p,zK e1,Bool.and_false,Bool.false_and]
   ·simp only[B3p,zK e2,Bool.and_false,Bool.false_and]
theorem F0w (s:ByteArray)(c:Int):∀(t:List UInt8) (k f:Nat) (acc:List ByteArray),(∀x∈acc,x.size≤s.size)→∀x∈D1x s c t k f acc,x.size≤s.size
 |[],k,f,acc,ha,x,hx=>by
  rcases zY.mp hx with hx|hx
  ·exact ha x hx
  ·simp at hx;subst hx;simp only[ByteArray.size_extract];omega
 |b::t,k,f,acc,ha,x,hx=>by
  simp only[D1x]at hx
  split at hx
  ·refine F0w s c t _ _ _ (fun x hx=>?_) x hx
   rcases zY.mp hx with hx|hx
   ·exact ha x hx
   ·simp at hx;subst hx;simp only[ByteArray.size_extract];omega
  ·exact F0w s c t _ _ _ ha x hx
theorem F7d {s:ByteArray}{c:Int}{w:ByteArray}(h:w∈B2v s c):w.size≤s.size:=F0w s c _ 0 0 [] (by simp) w h
def C8f (ws:List ByteArray):Prop:=ws.length≤1048577∧∀w∈ws,w.size≤1048576
theorem C8f.sm {ws:List ByteArray}(h:C8f ws):B3w 1048577 ws:=⟨h.1,fun w hw=>by have:=h.2 w hw;omega⟩
theorem B70 {s:ByteArray}(c:Int)(hs:s.size≤1048576):C8f (B2v s c):=⟨(F7e c hs).1,fun w hw=>by have:=F7d hw;omega⟩
theorem C8f.get {ws:List ByteArray}(h:C8f ws)(i:Nat):(ws.getD i E0).size≤1048576:=by
 by_cases hi:i<ws.length
 ·rw[getD_at hi];exact h.2 _ (zL hi)
 ·have:ws.getD i E0=E0:=by simp[List.getD,List.getElem?_eq_none (show ws.length≤i by omega)]
  rw[this];decide
theorem C8f.drop {ws:List ByteArray}(h:C8f ws)(i:Nat):C8f (ws.drop i):=⟨by have:=h.1;simp;omega,fun w hw=>h.2 w (List.mem_of_mem_drop hw)⟩
theorem C8f.take {ws:List ByteArray}(h:C8f ws)(i:Nat):C8f (ws.take i):=⟨by have:=h.1;simp;omega,fun w hw=>h.2 w (List.mem_of_mem_take hw)⟩
theorem E42 {ty:ByteArray→Int}{ws:List ByteArray}(h:C8f ws):C3b 1048576 (C2e ty ws):=by
 unfold C2e
 split
 ·unfold C3b B88;decide
 ·exact⟨h.get 0,F5y (h.drop 2).sm.2⟩
def D1t:ByteArray:=⟨#[40]⟩
def C1d:ByteArray:=⟨#[41]⟩
def pc (x:ByteArray):Bool:=decide (x=C1d)
noncomputable def crt (ty:ByteArray→Int):Nat→List ByteArray→B2x→B2x×List ByteArray
 |0,_,cols=>(cols,[])
 |f+1,ws,cols=>if ws.length=0 then(cols,[])else if ws.getD 0 E0=D1t then(if idx pc ws<0 then(cols,[])else crt ty f (ws.drop ((idx pc ws).toNat+1)) (cols++[C2e ty ((ws.take (idx pc ws).toNat).drop 1)]))else(cols,ws.drop 1)
theorem C21 {α:Type}(p:α→Bool):∀(t:List α) (k:Nat),(idxFrom p t k= -1∧idxFrom p t 0= -1)∨∃m:Nat,m<t.length∧idxFrom p t 0=(m:Int)∧idxFrom p t k=((k+m:Nat):Int)
 |[],k=> .inl ⟨rfl,rfl⟩
 |x::t,k=>by
  simp only[idxFrom]
  by_cases h:p x=true
  ·right;exact⟨0,by simp,by simp[h],by simp[h]⟩
  ·simp only[if_neg h]
   rcases C21 p t (k+1)with⟨a,_⟩|⟨m,a,b,c⟩
   ·left
    refine⟨a,?_⟩
    rcases C21 p t 1 with⟨d,_⟩|⟨m,d,e,_⟩
    ·exact d
    ·rcases C21 p t (k+1)with⟨_,g⟩|⟨m',_,_,g⟩
     ·rw[e]at g;omega
     ·rw[a]at g;omega
   ·right
    refine⟨m+1,by simp;omega,?_,by rw[c];omega⟩
    rcases C21 p t 1 with⟨_,d⟩|⟨m',_,d,e⟩
    ·rw[b]at d;omega
    ·rw[b]at d;rw[e];omega
theorem D3l {α:Type}{p:α→Bool}{x:α}{t:List α}(h:p x=false):idx p (x::t)=idxFrom p t 1:=by simp[idx,idxFrom,h]
theorem F6w {n:Nat}(h:n≤2097154):room n 64=true:=by simp[room];omega
theorem F7v {n:Nat}(h:n≤2097154):room n 16=true:=by simp[room];omega
theorem F6v {n:Nat}(h:n≤2097154):room n 32=true:=by simp[room];omega
theorem F2k (ty:ByteArray→Int):∀(f g:Nat) (ws:List ByteArray) (cols:B2x),ws.length<f→ws.length<g→crt ty f ws cols=crt ty g ws cols:=by
 intro f
 induction f with
 |zero=>intro g ws cols h;omega
 |succ f ih=>
  intro g ws cols h1 h2
  obtain⟨g,rfl⟩:∃g',g=g'+1:=⟨g - 1,by omega⟩
  simp only[crt]
  split
  ·rfl
  ·split
   ·split
    ·rfl
    ·exact ih g _ _ (by simp;omega) (by simp;omega)
   ·rfl
noncomputable def C3w (ty:ByteArray→Int)(ws:List ByteArray):B2x×List ByteArray:=crt ty (ws.length+1) ws []
theorem D9h:EV fun n=>∀(k:Int) (tb nm to:ByteArray) (ws:List ByteArray),C8f ws→C0k n k tb [] [] nm to ws=some (k,(tb,((C3w tyS ws).1,((C3w tyS ws).2,(nm,to))))):=(C8c.and (EV.gt 1048580)).up fun n ⟨hC,hn⟩ k tb nm to ws hw=>by
 have hl:=hw.1
 have scan:∀(k0:List ByteArray→Int→Int→ByteArray→ByteArray→ByteArray→B2x→List ByteArray→Int→ByteArray→ByteArray→ByteArray→B2x→List ByteArray→Option (Int×(ByteArray×(B2x×((List ByteArray)×(ByteArray×ByteArray)))))) (fr:Nat) (cols:B2x) (ks:List ByteArray) (z1:Int) (z2 z3 z4:ByteArray) (z5:B2x) (z6:List ByteArray),cols.length≤1048577→
   ∀(t:List ByteArray) (j i:Nat),ws.drop i=t→i≤ws.length→(fr≤i∨(fr=i+1∧ws.getD i E0≠C1d))→t.length<j→
   B54 n k0 j ws (i:Int) (fr:Int) k tb nm to cols ks z1 z2 z3 z4 z5 z6=if idxFrom pc t i<0 then k0 ws ((ws.length+1:Nat):Int) k tb nm to cols ks z1 z2 z3 z4 z5 z6 else k0 ws (idxFrom pc t i+1) k tb nm to (cols++[C2e tyS ((ws.take (idxFrom pc t i).toNat).drop fr)]) ks z1 z2 z3 z4 z5 z6:=by
  intro k0 fr cols ks z1 z2 z3 z4 z5 z6 hcl t
  induction t with
  |nil=>
   intro j i hd hi hf hj
   obtain⟨j,rfl⟩:∃j',j=j'+1:=⟨j - 1,by omega⟩
   have hi':i=ws.length:=by
    have:=congrArg List.length hd
    simp at this;omega
   subst hi'
   simp only[B54,A7d,zP,zH,zA,B26 (Nat.lt_succ_self ws.length) (by omega)]
   rfl
  |cons w t ih=>
   intro j i hd hi hf hj
   obtain⟨j,rfl⟩:∃j',j=j'+1:=⟨j - 1,by omega⟩
   obtain⟨h2,h3,h4⟩:=B32 hd E0
   have hx:ws[i]=w:=by simpa[List.getD,h2]using h3
   simp only[B54,A7d,zD h2,R1 h2,zE,getD_at h2,hx,zB,B26 h2 (by omega),B2p,show(⟨#[41]⟩:ByteArray)=C1d from rfl]
   by_cases hc:w=C1d
   ·have hp:pc w=true:=zD hc
    have hf:fr≤i:=hf.resolve_right fun h=>h.2 (by rw[getD_at h2,hx,hc])
    have e1:decide (0≤(fr:Int)∧(fr:Int)≤(i:Int)∧(i:Int)≤(ws.length:Int))=true:=zD ⟨by omega,by omega,by omega⟩
    have hs':C8f ((ws.take i).drop fr):=(hw.take i).drop fr
    have e2:idxFrom pc (w::t) i=(i:Int):=by simp[idxFrom,hp]
    rw[e2]
    have e3:((cols.length+[(C2e tyS ((ws.take i).drop fr))].length:Nat))≤2097154:=by simp;omega
    simp only[hc,zI,zT,zA,e1,zB,hC _ hs'.sm,zC,if_neg (show¬((i:Int)<0)by omega),zE,F6w e3]
    rfl
   ·have hp:pc w=false:=zK hc
    have e2:idxFrom pc (w::t) i=idxFrom pc t (i+1):=by simp[idxFrom,hp]
    rw[e2]
    simp only[hc,zH,zU,zB]
    exact ih j (i+1) h4 (by omega) (by omega) (by simp at hj;omega)
 have loop:∀(j i:Nat) (cols:B2x) (z1:Int) (z2 z3 z4:ByteArray) (z5:B2x) (z6:List ByteArray),ws.length+1<i+j→i≤ws.length+1→cols.length≤i→
   B53 n j ws (i:Int) k tb nm to cols [] z1 z2 z3 z4 z5 z6=some (k,(tb,((crt tyS j (ws.drop i) cols).1,((crt tyS j (ws.drop i) cols).2,(nm,to))))):=by
  intro j
  induction j with
  |zero=>intro i cols z1 z2 z3 z4 z5 z6 h1 h2 h3;omega
  |succ j ih=>
   intro i cols z1 z2 z3 z4 z5 z6 h1 h2 h3
   rw[B53]
   rcases zE1 i ws.length with hi|hi
   ·have hd:ws.drop i=ws[i]::ws.drop (i+1):=zC1 hi
    simp only[A7d,zD hi,R1 hi,zE,getD_at hi,zB,B26 hi (by omega),B2p,show(⟨#[40]⟩:ByteArray)=D1t from rfl]
    have hc:crt tyS (j+1) (ws.drop i) cols=if ws[i]=D1t then(if idx pc (ws.drop i)<0 then(cols,[])else crt tyS j ((ws.drop i).drop ((idx pc (ws.drop i)).toNat+1)) (cols++[C2e tyS (((ws.drop i).take (idx pc (ws.drop i)).toNat).drop 1)]))else(cols,(ws.drop i).drop 1):=by
     simp only[crt]
     rw[if_neg (by simp;omega)]
     simp only[hd,List.getD_cons_zero]
    rw[hc]
    by_cases ho:ws[i]=D1t
    ·have hp:pc ws[i]=false:=by rw[ho];decide
     have hx:idx pc (ws.drop i)=idxFrom pc (ws.drop (i+1)) 1:=by rw[hd];exact D3l hp
     rw[if_pos ho,hx]
     simp only[ho,zI,zB]
     rw[scan _ (i+1) cols [] _ _ _ _ _ _ (by omega) (ws.drop i) n i rfl (by omega) (.inr ⟨rfl,by rw[getD_at hi,ho];decide⟩) (by simp;omega),hd,show idxFrom pc (ws[i]::ws.drop (i+1)) i=idxFrom pc (ws.drop (i+1)) (i+1)by simp[idxFrom,hp],←hd]
     rcases C21 pc (ws.drop (i+1)) (i+1)with⟨a,b⟩|⟨m,a,b,c⟩
     ·have d:idxFrom pc (ws.drop (i+1)) 1= -1:=by
       rcases C21 pc (ws.drop (i+1)) 1 with⟨d,_⟩|⟨m,_,d,_⟩
       ·exact d
       ·rw[b]at d;omega
      rw[a,d,if_pos (by decide),if_pos (by decide)]
      rw[ih (ws.length+1) cols _ _ _ _ _ _ (by omega) (by omega) (by omega),List.drop_eq_nil_of_le (by omega)]
      cases j with
      |zero=>omega
      |succ j=>simp[crt]
     ·have d:idxFrom pc (ws.drop (i+1)) 1=((1+m:Nat):Int):=by
       rcases C21 pc (ws.drop (i+1)) 1 with⟨_,d⟩|⟨m',_,d,e⟩
       ·rw[b]at d;omega
       ·rw[b]at d;rw[e];omega
      simp only[List.length_drop]at a
      rw[c,d,if_neg (by omega),if_neg (by omega)]
      simp only[zE]
      have e1:(ws.take (i+1+m)).drop i=((ws.drop i).take (1+m)):=by rw[List.drop_take];congr 1;omega
      have e2:(ws.take (i+1+m)).drop (i+1)=((ws.drop i).take (1+m)).drop 1:=by rw[←e1,List.drop_drop]
      have e3:(((i+1+m:Nat):Int)+1)=((i+1+m+1:Nat):Int):=by omega
      have e4:(ws.drop i).drop (1+m+1)=ws.drop (i+1+m+1):=by rw[List.drop_drop];congr 1;omega
      rw[e3,e4,←e2]
      exact ih (i+1+m+1) _ _ _ _ _ _ _ (by omega) (by omega) (by simp;omega)
    ·rw[if_neg ho]
     simp only[ho,zH,zA,List.drop_drop]
     by_cases h5:i+1<ws.length
     ·have e1:decide (i+1<ws.length)=true:=zD h5
      have e2:decide (0≤((i+1:Nat):Int)∧((i+1:Nat):Int)≤((ws.length:Nat):Int)∧((ws.length:Nat):Int)≤(ws.length:Int))=true:=zD ⟨by omega,by omega,by omega⟩
      have e3:((([]:List ByteArray).length+(ws.drop (i+1)).length:Nat))≤2097154:=by simp;omega
      simp only[e1,e2,zB,List.take_length,F7v e3,List.nil_append]
     ·have e1:decide (i+1<ws.length)=false:=zK h5
      simp only[e1,zA]
      rw[List.drop_eq_nil_of_le (by omega)]
   ·have e0:decide ((i:Int)<(ws.length:Int))=false:=zK (by omega)
    have ew:IntKind.wrap .i64 ((i:Int)+(1:Int))=((i+1:Nat):Int):=B26 (Nat.lt_succ_self i) (by omega)
    have e1:decide (((i+1:Nat):Int)<(ws.length:Int))=false:=zK (by omega)
    simp only[e0,ew,e1,zA]
    rw[List.drop_eq_nil_of_le hi]
    simp[crt]
 rw[C0k]
 have:=loop n 0 [] 0 E0 E0 E0 [] [] (by omega) (by omega) (by simp)
 simp only[C3w]
 rw[←F2k tyS n (ws.length+1) ws [] (by omega) (by omega)]
 exact this

theorem E11:EV fun n=>∀(k:Int) (tb nm to:ByteArray) (ws:List ByteArray),C8f ws→C5r n k tb [] [] nm to ws=some ((k,(tb,((C3w tyI ws).1,((C3w tyI ws).2,(nm,to))))),()):=(D5y.and (C8r.and (EV.gt 1048580))).up fun n ⟨hC,hT,hn⟩ k tb nm to ws hw=>by
 have hI:∀l:List ByteArray,l.length≤1048577→B2m n l C1d=some (idx pc l):=by
  intro l hl
  obtain⟨m,rfl⟩:∃m,n=m+1:=⟨n - 1,by omega⟩
  rw[B2m]
  refine B7i pc l (fun j k=>B2e m j l C1d (l.length:Int) (k:Int)) (fun j=>by simp only[B2e,A7d,zP,zH,zA]) (fun j k hk=>?_) l m 0 rfl (by omega) (by omega)
  simp only[B2e,A7d,zD hk,R1 hk,zE,getD_at hk,zB,B26 hk (by omega),B2p,pc]
  rw[B7h]
  by_cases h:l[k]=C1d
  ·simp[h]
  ·simp[h,show¬(C1d=l[k])from fun e=>h e.symm]
 have loop:∀(j:Nat) (ws:List ByteArray) (cols:B2x),C8f ws→ws.length<j→cols.length+ws.length≤1048577→
   B9r n j ws k tb nm to cols []=some ((k,(tb,((crt tyI j ws cols).1,((crt tyI j ws cols).2,(nm,to))))),()):=by
  intro j
  induction j with
  |zero=>intro ws cols _ h;omega
  |succ j ih=>
   intro ws cols hw h1 h2
   rw[B9r]
   simp only[crt]
   by_cases h0:ws.length=0
   ·have e0:decide ((0:Int)<(ws.length:Int))=false:=zK (by omega)
    simp only[h0,show decide ((0:Int)<((0:Nat):Int))=false from rfl,zA,if_true]
   ·have e0:decide ((0:Int)<(ws.length:Int))=true:=zD (by omega)
    have e1:inR (0:Int) ws.length=true:=R1 (k:=0) (by omega)
    simp only[e0,e1,zB,if_neg h0,B2p,show(⟨#[40]⟩:ByteArray)=D1t from rfl,show(⟨#[41]⟩:ByteArray)=C1d from rfl,show(⟨#[]⟩:ByteArray)=E0 from rfl,show(0:Int).toNat=0 from rfl,show(1:Int).toNat=1 from rfl]
    by_cases ho:ws.getD 0 E0=D1t
    ·simp only[ho,zI,zB,if_true,hI ws (by omega),zC]
     obtain⟨g1,g2⟩:=C1m pc ws
     by_cases hc:idx pc ws<0
     ·simp only[hc,zI,zB,if_true]
     ·have hpos:1≤idx pc ws:=by
       rcases Nat.eq_zero_or_pos (idx pc ws).toNat with z|z
       ·exfalso
        cases ws with
        |nil=>simp at h0
        |cons w t=>
         have hp:pc w=false:=by
          simp only[List.getD_cons_zero]at ho
          rw[ho];decide
         rw[D3l hp]at hc z
         rcases C21 pc t 1 with⟨d,_⟩|⟨m,_,_,d⟩
         ·rw[d]at hc;omega
         ·rw[d]at z;omega
       ·omega
      obtain⟨e,he⟩:=Int.eq_ofNat_of_zero_le (show 0≤idx pc ws by omega)
      rw[he]at hc hpos g2⊢
      have q1:decide ((e:Int)<0)=false:=zK (by omega)
      have q2:decide (0≤(1:Int)∧(1:Int)≤(e:Int)∧(e:Int)≤(ws.length:Int))=true:=zD ⟨by omega,by omega,by omega⟩
      have q3:IntKind.wrap .i64 ((e:Int)+(1:Int))=((e+1:Nat):Int):=B26 (Nat.lt_succ_self e) (by omega)
      have q4:decide (0≤((e+1:Nat):Int)∧((e+1:Nat):Int)≤((ws.length:Nat):Int)∧((ws.length:Nat):Int)≤(ws.length:Int))=true:=zD ⟨by omega,by omega,by omega⟩
      have q5:((cols.length+[C2e tyI ((ws.take e).drop 1)].length:Nat))≤2097154:=by simp;omega
      have hs':C8f ((ws.take e).drop 1):=(hw.take e).drop 1
      simp only[q1,q2,q3,q4,zB,zA,if_neg hc,zE,hC _ hs'.sm,zC,List.take_length]
      rw[show room (cols.length+[((C2e tyI ((ws.take e).drop 1)).1,((C2e tyI ((ws.take e).drop 1)).2.1,((C2e tyI ((ws.take e).drop 1)).2.2.1,((C2e tyI ((ws.take e).drop 1)).2.2.2.1,((C2e tyI ((ws.take e).drop 1)).2.2.2.2.1,((C2e tyI ((ws.take e).drop 1)).2.2.2.2.2.1,(C2e tyI ((ws.take e).drop 1)).2.2.2.2.2.2))))))].length) 64=true from F6w q5,zB]
      exact ih (ws.drop (e+1)) _ (hw.drop _) (by simp;omega) (by simp;omega)
    ·have q2:decide (0≤(1:Int)∧(1:Int)≤((ws.length:Nat):Int)∧((ws.length:Nat):Int)≤(ws.length:Int))=true:=zD ⟨by omega,by omega,by omega⟩
     simp only[ho,zH,zA,if_false,q2,zB,zE,List.take_length,hT (ws.drop 1) (by have:=hw.1;simp;omega),zC]
 rw[C5r]
 have:=loop n ws [] hw (by have:=hw.1;omega) (by have:=hw.1;simpa using this)
 simp only[C3w]
 rw[←F2k tyI n (ws.length+1) ws [] (by have:=hw.1;omega) (by omega)]
 exact this
def F3q (l:B2x):Prop:=∃c∈l,B3p c=false
theorem F3t (ws:List ByteArray):(C3w tyI ws).2=(C3w tyS ws).2∧((C3w tyI ws).1=(C3w tyS ws).1∨(F3q (C3w tyI ws).1∧F3q (C3w tyS ws).1)):=by
 have key:∀(f:Nat) (ws:List ByteArray) (a b:B2x),(a=b∨(F3q a∧F3q b))→(crt tyI f ws a).2=(crt tyS f ws b).2∧((crt tyI f ws a).1=(crt tyS f ws b).1∨(F3q (crt tyI f ws a).1∧F3q (crt tyS f ws b).1)):=by
  intro f
  induction f with
  |zero=>intro ws a b h;exact⟨rfl,h⟩
  |succ f ih=>
   intro ws a b h
   simp only[crt]
   split
   ·exact⟨rfl,h⟩
   ·split
    ·split
     ·exact⟨rfl,h⟩
     ·refine ih _ _ _ ?_
      rcases h with rfl|⟨⟨c,hc,hb⟩,⟨d,hd,hb2⟩⟩
      ·rcases E1x ((ws.take (idx pc ws).toNat).drop 1)with e|⟨e1,e2⟩
       ·left;rw[e]
       ·right;exact⟨⟨_,zA1 _ (zF1.mpr rfl),e1⟩,⟨_,zA1 _ (zF1.mpr rfl),e2⟩⟩
      ·right;exact⟨⟨c,zZ _ hc,hb⟩,⟨d,zZ _ hd,hb2⟩⟩
    ·exact⟨rfl,h⟩
 exact key _ ws [] [] (.inl rfl)
theorem F3u {ty:ByteArray→Int}{ws:List ByteArray}(h:C8f ws)(hl:ws.length≤1048575):C32 1048576 (C3w ty ws).1∧B3w 1048576 (C3w ty ws).2:=by
 have key:∀(f:Nat) (ws:List ByteArray) (a:B2x),C8f ws→(∀c∈a,C3b 1048576 c)→a.length+ws.length≤1048576→C32 1048576 (crt ty f ws a).1∧B3w 1048576 (crt ty f ws a).2:=by
  intro f
  induction f with
  |zero=>intro ws a hw ha hl;exact⟨⟨by simp[crt];omega,ha⟩,⟨by simp[crt],by simp[crt]⟩⟩
  |succ f ih=>
   intro ws a hw ha hl
   have nil:B3w 1048576 []:=⟨by simp,by simp⟩
   simp only[crt]
   split
   ·exact⟨⟨by simp;omega,ha⟩,nil⟩
   ·split
    ·split
     ·exact⟨⟨by simp;omega,ha⟩,nil⟩
     ·refine ih _ _ (hw.drop _) (fun c hc=>?_) (by simp;omega)
      rcases zY.mp hc with hc|hc
      ·exact ha c hc
      ·rw[zF1.mp hc];exact E42 ((hw.take _).drop 1)
    ·exact⟨⟨by simp;omega,ha⟩,⟨by simp;omega,fun w hw'=>hw.2 w (List.mem_of_mem_drop hw')⟩⟩
 exact key _ ws [] h (by simp) (by simp;omega)
def fin (d:B3a)(s:ByteArray):B3a×(Bool×Unit):=if B2w d=s then(d,(true,()))else(B41,(false,()))
theorem C20 (d:B3a)(s:ByteArray):(bif !(decide (B2w d=s))then some (B41,(false,()))else some (d,(true,())))=some (fin d s):=by
 unfold fin
 by_cases h:B2w d=s<;>simp[h]
theorem D47 {d:B3a}{s:ByteArray}(h:B2w d≠s):fin d s=(B41,(false,())):=by simp[fin,h]
def B84:ByteArray:=⟨#[99,114,101,97,116,101]⟩
def C71:ByteArray:=⟨#[100,114,111,112]⟩
def D4q:ByteArray:=⟨#[97,100,100]⟩
def C9e:ByteArray:=⟨#[111,117,116]⟩
def C1w:ByteArray:=⟨#[110,97,109,101]⟩
noncomputable def B5x (s:ByteArray):B3a×(Bool×Unit):=if(B2v s 32).length<2 then(B41,(false,()))else
 if(B2v s 32).getD 0 E0=B84 then fin (1,((B2v s 32).getD 1 E0,((C3w tyS ((B2v s 32).drop 2)).1,((C3w tyS ((B2v s 32).drop 2)).2,(E0,E0))))) s else
 if(B2v s 32).getD 0 E0=C71 then fin (2,((B2v s 32).getD 1 E0,([],([],(E0,E0))))) s else
 if(B2v s 32).getD 0 E0=D4q then fin (3,((B2v s 32).getD 1 E0,([C2e tyS ((B2v s 32).drop 2)],([],(E0,E0))))) s else
 if(B2v s 32).getD 0 E0=C9e∧(B2v s 32).length=3 then fin (4,((B2v s 32).getD 1 E0,([],([],((B2v s 32).getD 2 E0,E0))))) s else
 if(B2v s 32).getD 0 E0=C1w∧(B2v s 32).length=4 then fin (5,((B2v s 32).getD 1 E0,([],([],((B2v s 32).getD 2 E0,(B2v s 32).getD 3 E0))))) s else(B41,(false,()))
def E9p (l:List ByteArray):Nat:=(l.map fun w=>w.size+1).sum
theorem E58 (s:ByteArray)(c:Int):∀(t:List UInt8) (k f:Nat) (acc:List ByteArray),k+t.length=s.size→f≤k→E9p (D1x s c t k f acc)=E9p acc+(s.size - f+1)
 |[],k,f,acc,h,hf=>by
  simp at h;subst h
  simp[D1x,E9p,ByteArray.size_extract]
 |b::t,k,f,acc,h,hf=>by
  simp only[D1x]
  simp only[zW]at h
  split
  ·rw[E58 s c t _ _ _ (by omega) (by omega)]
   simp[E9p,ByteArray.size_extract];omega
  ·exact E58 s c t _ _ _ (by omega) (by omega)
theorem D8w (s:ByteArray)(c:Int):E9p (B2v s c)=s.size+1:=by
 rw[B2v,E58 s c _ 0 0 [] (by rw[B3v];omega) (by omega)]
 simp[E9p]
theorem D6o {s:ByteArray}{c:Int}(h:¬(B2v s c).length<2):s≠E0:=by
 intro e
 have h1:=D8w s c
 have h2:s.size=0:=by rw[e];rfl
 generalize B2v s c=w at h h1
 cases w with
 |nil=>simp at h
 |cons a w=>
  cases w with
  |nil=>simp at h
  |cons b w=>simp[E9p]at h1;omega
theorem B7a {d:B3a}{s:ByteArray}(hs:s≠E0)(h:B39 d=false):B2w d≠s:=by
 simp only[B2w,h];exact fun e=>hs e.symm
theorem F0f:B3k E0=false:=by decide
theorem F7u {s:ByteArray}(h2:¬(B2v s 32).length<2)(h0:(B2v s 32).getD 0 E0=C9e)(h3:¬(B2v s 32).length=3):B2w (4,((B2v s 32).getD 1 E0,([],([],((B2v s 32).getD 2 E0,E0)))))≠s:=by
 have hs:=D6o h2
 have hsum:=D8w s 32
 generalize B2v s 32=w at h2 h0 h3 hsum⊢
 by_cases h:w.length<3
 ·refine B7a hs ?_
  have:w.getD 2 E0=E0:=by simp[List.getD,List.getElem?_eq_none (show w.length≤2 by omega)]
  generalize w.getD 2 E0=x at this⊢
  subst this
  simp[B39,F0f]
 ·rcases w with _|⟨a,_|⟨b,_|⟨c,_|⟨d,w⟩⟩⟩⟩
  ·simp at h2
  ·simp at h2
  ·simp at h
  ·simp at h3
  ·simp only[List.getD_cons_zero,List.getD_cons_succ]at h0⊢
   subst h0
   intro e
   unfold B2w at e
   split at e
   ·have hj:B8p (C3j (4,(b,([],([],(c,E0))))))=C9e++C70++b++C70++c:=by
     simp[C3j,B8p,B8w,D9v];rfl
    rw[hj]at e
    have:=congrArg ByteArray.size e
    simp[ByteArray.size_append,D0r]at this
    simp[E9p]at hsum
    omega
   ·exact hs e.symm
theorem F6o {s:ByteArray}(h2:¬(B2v s 32).length<2)(h0:(B2v s 32).getD 0 E0=C1w)(h3:¬(B2v s 32).length=4):B2w (5,((B2v s 32).getD 1 E0,([],([],((B2v s 32).getD 2 E0,(B2v s 32).getD 3 E0)))))≠s:=by
 have hs:=D6o h2
 have hsum:=D8w s 32
 generalize B2v s 32=w at h2 h0 h3 hsum⊢
 by_cases h:w.length<4
 ·refine B7a hs ?_
  have:w.getD 3 E0=E0:=by simp[List.getD,List.getElem?_eq_none (show w.length≤3 by omega)]
  generalize w.getD 3 E0=x at this⊢
  subst this
  simp[B39,F0f]
 ·rcases w with _|⟨a,_|⟨b,_|⟨c,_|⟨d,_|⟨f,w⟩⟩⟩⟩⟩
  ·simp at h2
  ·simp at h2
  ·simp at h
  ·simp at h
  ·simp at h3
  ·simp only[List.getD_cons_zero,List.getD_cons_succ]at h0⊢
   subst h0
   intro e
   unfold B2w at e
   split at e
   ·have hj:B8p (C3j (5,(b,([],([],(c,d))))))=C1w++C70++b++C70++c++C70++d:=by
     simp[C3j,B8p,B8w,D9v];rfl
    rw[hj]at e
    have:=congrArg ByteArray.size e
    simp[ByteArray.size_append,D0r]at this
    simp[E9p]at hsum
    omega
   ·exact hs e.symm
theorem F5m {s:ByteArray}(hs:s≠E0)(tb:ByteArray)(ws:List ByteArray):fin (1,(tb,((C3w tyI ws).1,((C3w tyI ws).2,(E0,E0))))) s=fin (1,(tb,((C3w tyS ws).1,((C3w tyS ws).2,(E0,E0))))) s:=by
 obtain⟨e2,e1|⟨b1,b2⟩⟩:=F3t ws
 ·rw[e1,e2]
 ·have bad:∀(cs:B2x) (ks:List ByteArray),F3q cs→B39 (1,(tb,(cs,(ks,(E0,E0)))))=false:=by
   intro cs ks ⟨c,hc,hb⟩
   cases h:B2d (tb,(cs,ks))with
   |false=>simp[B39,h]
   |true=>
    have:=C0n h c hc
    rw[hb]at this;cases this
  rw[D47 (B7a hs (bad _ _ b1)),D47 (B7a hs (bad _ _ b2))]
theorem F5e {s:ByteArray}(hs:s≠E0)(tb:ByteArray)(ws:List ByteArray):fin (3,(tb,([C2e tyI ws],([],(E0,E0))))) s=fin (3,(tb,([C2e tyS ws],([],(E0,E0))))) s:=by
 rcases E1x ws with e|⟨b1,b2⟩
 ·rw[e]
 ·rw[D47 (B7a hs (by simp[B39,b1])),D47 (B7a hs (by simp[B39,b2]))]

theorem C24 (w:List ByteArray):(w.drop 2).take (((w.length:Nat):Int).toNat - 2)=w.drop 2:=by
 rw[List.take_of_length_le]
 simp
theorem E2x:EV fun n=>∀s:ByteArray,s.size≤1048576→C74 n s=some (B5x s):=(D5x.and (E11.and (D5y.and C6r))).up fun n ⟨h1,h2,h3,hD⟩ s hs=>by
 have hw:=B70 32 hs
 have hne:=@D6o s 32
 have ht:=fun hs=>F5m (s:=s) hs ((B2v s 32).getD 1 E0) ((B2v s 32).drop 2)
 have ha:=fun hs=>F5e (s:=s) hs ((B2v s 32).getD 1 E0) ((B2v s 32).drop 2)
 simp only[C74,h1 s hs,zC,B5x]
 generalize B2v s 32=w at hw hne ht ha⊢
 by_cases hl:w.length<2
 ·have e0:decide ((w.length:Int)<(2:Int))=true:=zD (by omega)
  simp only[e0,zB,if_pos hl];rfl
 ·have hs0:=hne hl
  have hl1:=hw.1
  have ht:=ht hs0
  have ha:=ha hs0
  have e0:decide ((w.length:Int)<(2:Int))=false:=zK (by omega)
  have e1:inR (0:Int) w.length=true:=R1 (k:=0) (by omega)
  have e2:inR (1:Int) w.length=true:=R1 (k:=1) (by omega)
  have e3:decide (0≤(2:Int)∧(2:Int)≤((w.length:Nat):Int)∧((w.length:Nat):Int)≤(w.length:Int))=true:=zD ⟨by omega,by omega,by omega⟩
  have z0:E0.size≤1048576:=by decide
  have zc:C32 1048576 []:=⟨by simp,by simp⟩
  have zs:B3w 1048576 []:=⟨by simp,by simp⟩
  have d2:=hw.drop 2
  obtain⟨m1,m2⟩:=F3u (ty:=tyI) d2 (by simp;omega)
  have D0:B3c n 0 (w.getD 1 E0) [] [] E0 E0=some (B2w (0,(w.getD 1 E0,([],([],(E0,E0)))))):=hD (0,(w.getD 1 E0,([],([],(E0,E0))))) ⟨hw.get 1,zc,zs,z0,z0⟩
  have D1:B3c n 1 (w.getD 1 E0) (C3w tyI (w.drop 2)).1 (C3w tyI (w.drop 2)).2 E0 E0=some (B2w (1,(w.getD 1 E0,((C3w tyI (w.drop 2)).1,((C3w tyI (w.drop 2)).2,(E0,E0)))))):=hD (1,(w.getD 1 E0,((C3w tyI (w.drop 2)).1,((C3w tyI (w.drop 2)).2,(E0,E0))))) ⟨hw.get 1,m1,m2,z0,z0⟩
  have D2:B3c n 2 (w.getD 1 E0) [] [] E0 E0=some (B2w (2,(w.getD 1 E0,([],([],(E0,E0)))))):=hD (2,(w.getD 1 E0,([],([],(E0,E0))))) ⟨hw.get 1,zc,zs,z0,z0⟩
  have D3:B3c n 3 (w.getD 1 E0) [C2e tyI (w.drop 2)] [] E0 E0=some (B2w (3,(w.getD 1 E0,([C2e tyI (w.drop 2)],([],(E0,E0)))))):=hD (3,(w.getD 1 E0,([C2e tyI (w.drop 2)],([],(E0,E0))))) ⟨hw.get 1,⟨by simp,fun c hc=>by rw[zF1.mp hc];exact E42 d2⟩,zs,z0,z0⟩
  have D4:B3c n 4 (w.getD 1 E0) [] [] (w.getD 2 E0) E0=some (B2w (4,(w.getD 1 E0,([],([],(w.getD 2 E0,E0)))))):=hD (4,(w.getD 1 E0,([],([],(w.getD 2 E0,E0))))) ⟨hw.get 1,zc,zs,hw.get 2,z0⟩
  have D5:B3c n 5 (w.getD 1 E0) [] [] (w.getD 2 E0) (w.getD 3 E0)=some (B2w (5,(w.getD 1 E0,([],([],(w.getD 2 E0,w.getD 3 E0)))))):=hD (5,(w.getD 1 E0,([],([],(w.getD 2 E0,w.getD 3 E0))))) ⟨hw.get 1,zc,zs,hw.get 2,hw.get 3⟩
  have C1:=h2 1 (w.getD 1 E0) E0 E0 (w.drop 2) d2
  have C3:=h3 (w.drop 2) d2.sm
  have bad0:B2w (0,(w.getD 1 E0,([],([],(E0,E0)))))≠s:=B7a hs0 (by simp[B39])
  simp only[e0,e1,e2,e3,zB,zA,if_neg hl,B2p,C24,B31,show(0:Int).toNat=0 from rfl,show(1:Int).toNat=1 from rfl,show(2:Int).toNat=2 from rfl,show(3:Int).toNat=3 from rfl,show(⟨#[]⟩:ByteArray)=E0 from rfl,
   show(⟨#[99,114,101,97,116,101]⟩:ByteArray)=B84 from rfl,show(⟨#[100,114,111,112]⟩:ByteArray)=C71 from rfl,show(⟨#[97,100,100]⟩:ByteArray)=D4q from rfl,show(⟨#[111,117,116]⟩:ByteArray)=C9e from rfl,show(⟨#[110,97,109,101]⟩:ByteArray)=C1w from rfl]
  by_cases c1:w.getD 0 E0=B84
  ·simp only[c1,zI,zB,if_true,C1,zC,D1]
   rw[←ht];exact C20 _ _
  ·simp only[c1,zH,zA,if_false]
   by_cases c2:w.getD 0 E0=C71
   ·simp only[c2,zI,zB,if_true,zC,D2]
    exact C20 _ _
   ·simp only[c2,zH,zA,if_false]
    by_cases c3:w.getD 0 E0=D4q
    ·simp only[c3,zI,zB,if_true,C3,zC]
     rw[←ha]
     refine Eq.trans (congrArg (fun o=>Option.bind o _) D3) ?_
     exact C20 _ _
    ·simp only[c3,zH,zA,if_false]
     have dd0:∀X,(B3c n 0 (w.getD 1 E0) [] [] E0 E0).bind (fun r=>bif !(decide (r=s))then some (B41,(false,()))else X)=some (B41,(false,())):=by
      intro X
      simp only[D0,zC,bad0,zH,zU,zB]
     by_cases c4:w.getD 0 E0=C9e
     ·have c5:¬w.getD 0 E0=C1w:=by rw[c4];decide
      by_cases l3:w.length=3
      ·have q1:decide ((w.length:Int)=3)=true:=zD (by omega)
       have q2:inR (2:Int) w.length=true:=R1 (k:=2) (by omega)
       simp only[c4,l3,and_self,if_true,zI,zB,zC]
       have q2':inR (2:Int) 3=true:=by decide
       have q1':decide (((3:Nat):Int)=3)=true:=by decide
       simp only[q1',q2',zB,D4,zC]
       exact C20 _ _
      ·have q1:decide ((w.length:Int)=3)=false:=zK (by omega)
       have n4:¬(C9e=C1w):=by decide
       simp only[c4,l3,and_false,if_false,zI,zB,q1,zA,n4,false_and,zH]
       exact dd0 _
     ·simp only[c4,zH,zA,if_false,false_and]
      by_cases c5:w.getD 0 E0=C1w
      ·by_cases l4:w.length=4
       ·have q1:decide ((w.length:Int)=4)=true:=zD (by omega)
        have q2:inR (2:Int) w.length=true:=R1 (k:=2) (by omega)
        have q3:inR (3:Int) w.length=true:=R1 (k:=3) (by omega)
        simp only[q1,q2,q3,c5,zI,zB,D5,zC]
        rw[if_pos ⟨trivial,l4⟩]
        exact C20 _ _
       ·have q1:decide ((w.length:Int)=4)=false:=zK (by omega)
        simp only[q1,c5,zI,zB,zA,l4,and_false,if_false]
        exact dd0 _
      ·simp only[c5,zH,zA,if_false,false_and]
       exact dd0 _
theorem D94 {w:List ByteArray}{i:Nat}(h:¬i<w.length):w.getD i E0=E0:=by simp[List.getD,List.getElem?_eq_none (show w.length≤i by omega)]
theorem E35:EV fun n=>∀s:ByteArray,s.size≤1048576→C7d n s=some (B5x s):=(D62.and (D9h.and (C8c.and C6t))).up fun n ⟨h1,h2,h3,hD⟩ s hs=>by
 have hw:=B70 32 hs
 have hne:=@D6o s 32
 have ho:=@F7u s
 have hm:=@F6o s
 simp only[C7d,h1 s hs,zC,B5x]
 generalize B2v s 32=w at hw hne ho hm⊢
 by_cases hl:w.length<2
 ·have e0:decide ((w.length:Int)<(2:Int))=true:=zD (by omega)
  simp only[e0,zB,if_pos hl];rfl
 ·have hs0:=hne hl
  have hl1:=hw.1
  have e0:decide ((w.length:Int)<(2:Int))=false:=zK (by omega)
  have e1:inR (0:Int) w.length=true:=R1 (k:=0) (by omega)
  have e2:inR (1:Int) w.length=true:=R1 (k:=1) (by omega)
  have e3:decide (0≤(2:Int)∧(2:Int)≤((w.length:Nat):Int)∧((w.length:Nat):Int)≤(w.length:Int))=true:=zD ⟨by omega,by omega,by omega⟩
  have z0:E0.size≤1048576:=by decide
  have zc:C32 1048576 []:=⟨by simp,by simp⟩
  have zs:B3w 1048576 []:=⟨by simp,by simp⟩
  have d2:=hw.drop 2
  obtain⟨m1,m2⟩:=F3u (ty:=tyS) d2 (by simp;omega)
  have DD:∀(k:Int) (cs:B2x) (ks:B43) (a b:ByteArray),C32 1048576 cs→B3w 1048576 ks→a.size≤1048576→b.size≤1048576→R2 n k (w.getD 1 E0) cs ks a b=some (B2w (k,(w.getD 1 E0,(cs,(ks,(a,b)))))):=fun k cs ks a b g1 g2 g3 g4=>hD (k,(w.getD 1 E0,(cs,(ks,(a,b))))) ⟨hw.get 1,g1,g2,g3,g4⟩
  have C1:=h2 1 (w.getD 1 E0) E0 E0 (w.drop 2) d2
  have C3:=h3 (w.drop 2) d2.sm
  have D1:=DD 1 _ _ E0 E0 m1 m2 z0 z0
  have D2:=DD 2 [] [] E0 E0 zc zs z0 z0
  have D3:=DD 3 [C2e tyS (w.drop 2)] [] E0 E0 ⟨by simp,fun c hc=>by rw[zF1.mp hc];exact E42 d2⟩ zs z0 z0
  have D0:=DD 0 [] [] E0 E0 zc zs z0 z0
  have D4:=DD 4 [] [] _ E0 zc zs (hw.get 2) z0
  have D4':=DD 4 [] [] E0 E0 zc zs z0 z0
  have D5:=DD 5 [] [] _ _ zc zs (hw.get 2) (hw.get 3)
  have D5':=DD 5 [] [] _ E0 zc zs (hw.get 2) z0
  have D5'':=DD 5 [] [] E0 E0 zc zs z0 z0
  have bad0:B2w (0,(w.getD 1 E0,([],([],(E0,E0)))))≠s:=B7a hs0 (by simp[B39])
  have w0:=ho hl
  have w1:=hm hl
  simp only[e0,e1,e2,e3,zB,zA,if_neg hl,B2p,C24,B31,show(0:Int).toNat=0 from rfl,show(1:Int).toNat=1 from rfl,show(2:Int).toNat=2 from rfl,show(3:Int).toNat=3 from rfl,show(⟨#[]⟩:ByteArray)=E0 from rfl,
   show(⟨#[99,114,101,97,116,101]⟩:ByteArray)=B84 from rfl,show(⟨#[100,114,111,112]⟩:ByteArray)=C71 from rfl,show(⟨#[97,100,100]⟩:ByteArray)=D4q from rfl,show(⟨#[111,117,116]⟩:ByteArray)=C9e from rfl,show(⟨#[110,97,109,101]⟩:ByteArray)=C1w from rfl,
   show decide ((0:Int)=4)=false from rfl,show decide ((0:Int)=5)=false from rfl,show decide ((2:Int)=4)=false from rfl,show decide ((2:Int)=5)=false from rfl,show decide ((3:Int)=4)=false from rfl,show decide ((3:Int)=5)=false from rfl,
   show decide ((4:Int)=4)=true from rfl,show decide ((4:Int)=5)=false from rfl,show decide ((5:Int)=4)=false from rfl,show decide ((5:Int)=5)=true from rfl,D0,D2,bad0,C1,C3,zC,show decide ((1:Int)=4)=false from rfl,show decide ((1:Int)=5)=false from rfl,D1,zH,zU]
  by_cases c1:w.getD 0 E0=B84
  ·simp only[c1,zI,zB,if_true]
   exact C20 _ _
  ·simp only[c1,zH,zA,if_false]
   by_cases c2:w.getD 0 E0=C71
   ·simp only[c2,zI,zB,if_true]
    exact C20 _ _
   ·simp only[c2,zH,zA,if_false]
    by_cases c3:w.getD 0 E0=D4q
    ·simp only[c3,zI,zB,if_true]
     refine Eq.trans (congrArg (fun o=>Option.bind o _) D3) ?_
     exact C20 _ _
    ·simp only[c3,zH,zA,if_false]
     by_cases c4:w.getD 0 E0=C9e
     ·have n4:¬(C9e=C1w):=by decide
      have hX:(if w.getD 0 E0=C9e∧w.length=3 then fin (4,(w.getD 1 E0,([],([],(w.getD 2 E0,E0))))) s else if w.getD 0 E0=C1w∧w.length=4 then fin (5,(w.getD 1 E0,([],([],(w.getD 2 E0,w.getD 3 E0))))) s else(B41,(false,())))=fin (4,(w.getD 1 E0,([],([],(w.getD 2 E0,E0))))) s:=by
       by_cases l3:w.length=3
       ·rw[if_pos ⟨c4,l3⟩]
       ·rw[if_neg (fun h=>l3 h.2),if_neg (fun h=>n4 (by rw[←c4];exact h.1)),D47 (w0 c4 l3)]
      rw[hX]
      simp only[c4,zI,zB]
      by_cases l2:2<w.length
      ·have q1:decide ((2:Int)<(w.length:Int))=true:=zD (by omega)
       have q2:inR (2:Int) w.length=true:=R1 (k:=2) l2
       simp only[q1,q2,zB,D4,zC]
       exact C20 _ _
      ·have q1:decide ((2:Int)<(w.length:Int))=false:=zK (by omega)
       rw[D94 l2]
       simp only[q1,zA,D4',zC]
       exact C20 _ _
     ·simp only[c4,zH,zA,if_false,false_and]
      by_cases c5:w.getD 0 E0=C1w
      ·have hX:(if w.getD 0 E0=C1w∧w.length=4 then fin (5,(w.getD 1 E0,([],([],(w.getD 2 E0,w.getD 3 E0))))) s else(B41,(false,())))=fin (5,(w.getD 1 E0,([],([],(w.getD 2 E0,w.getD 3 E0))))) s:=by
        by_cases l3:w.length=4
        ·rw[if_pos ⟨c5,l3⟩]
        ·rw[if_neg (fun h=>l3 h.2),D47 (w1 c5 l3)]
       rw[hX]
       simp only[c5,zI,zB]
       by_cases l2:2<w.length
       ·have q1:decide ((2:Int)<(w.length:Int))=true:=zD (by omega)
        have q2:inR (2:Int) w.length=true:=R1 (k:=2) l2
        by_cases l3:3<w.length
        ·have q3:decide ((3:Int)<(w.length:Int))=true:=zD (by omega)
         have q4:inR (3:Int) w.length=true:=R1 (k:=3) l3
         simp only[q1,q2,q3,q4,zB,D5,zC]
         exact C20 _ _
        ·have q3:decide ((3:Int)<(w.length:Int))=false:=zK (by omega)
         rw[D94 l3]
         simp only[q1,q2,q3,zB,zA,D5',zC]
         exact C20 _ _
       ·have q1:decide ((2:Int)<(w.length:Int))=false:=zK (by omega)
        have q3:decide ((3:Int)<(w.length:Int))=false:=zK (by omega)
        rw[D94 l2,D94 (show¬3<w.length by omega)]
        simp only[q1,q3,zA,D5'',zC]
        exact C20 _ _
      ·simp only[c5,zH,zA,if_false,false_and]
       have dd0:∀(a b:ByteArray),a.size≤1048576→b.size≤1048576→R2 n 0 (w.getD 1 E0) [] [] a b=some E0:=fun a b ga gb=>by
        rw[DD 0 [] [] a b zc zs ga gb]
        simp[B2w,B39]
       have hE:¬(E0=s):=fun e=>hs0 e.symm
       rfl
theorem E5c {d:B3a}{s:ByteArray}(h:B7v 1048576 d):B7v 1048576 (fin d s).1:=by
 unfold fin
 split
 ·exact h
 ·exact⟨by decide,⟨by simp[B41],by simp[B41]⟩,⟨by simp[B41],by simp[B41]⟩,by decide,by decide⟩
theorem E1w {s:ByteArray}(hs:s.size≤1048576):B7v 1048576 (B5x s).1:=by
 have hw:=B70 32 hs
 unfold B5x
 generalize B2v s 32=w at hw⊢
 have z0:E0.size≤1048576:=by decide
 have zc:C32 1048576 []:=⟨by simp,by simp⟩
 have zs:B3w 1048576 []:=⟨by simp,by simp⟩
 have d2:=hw.drop 2
 split
 ·exact C0v
 ·have hl:=hw.1
  obtain⟨m1,m2⟩:=F3u (ty:=tyS) d2 (by simp;omega)
  split
  ·exact E5c ⟨hw.get 1,m1,m2,z0,z0⟩
  ·split
   ·exact E5c ⟨hw.get 1,zc,zs,z0,z0⟩
   ·split
    ·exact E5c ⟨hw.get 1,⟨by simp,fun c hc=>by rw[zF1.mp hc];exact E42 d2⟩,zs,z0,z0⟩
    ·split
     ·exact E5c ⟨hw.get 1,zc,zs,hw.get 2,z0⟩
     ·split
      ·exact E5c ⟨hw.get 1,zc,zs,hw.get 2,hw.get 3⟩
      ·exact C0v
theorem C5i:∀x y:List UInt8,(Op.bytesLess x y&&Op.bytesLess y x)=false∧(Op.bytesLess x y||Op.bytesLess y x)= !decide (x=y)
 |[],[]=>by simp[Op.bytesLess]
 |[],b::y=>by simp[Op.bytesLess]
 |a::x,[]=>by simp[Op.bytesLess]
 |a::x,b::y=>by
  obtain⟨h1,h2⟩:=C5i x y
  simp only[Op.bytesLess]
  by_cases h:a=b
  ·subst h
   simp only[show(a<a)=False from eq_false (UInt8.lt_irrefl a),zH,Bool.false_or,BEq.rfl,zG1,h1,h2,List.cons.injEq,true_and]
  ·have hn:¬b=a:=fun e=>h e.symm
   have e1:(a==b)=false:=by simp[h]
   have e2:(b==a)=false:=by simp[hn]
   simp only[e1,e2,Bool.false_and,Bool.or_false,List.cons.injEq,h,false_and,zH,zU]
   rcases UInt8.lt_or_lt_of_ne h with g|g
   ·have:¬b<a:=UInt8.lt_asymm g
    simp[g,this]
   ·have:¬a<b:=UInt8.lt_asymm g
    simp[g,this]
theorem F33 {x y:B3u}(hx:B46 x.1 x.2.1 x.2.2=true)(hy:B46 y.1 y.2.1 y.2.2=true):(B8r x y&&B8r y x)=false∧(B8r x y||B8r y x)= !decide (x=y):=by
 obtain⟨a,b,s⟩:=x;obtain⟨c,d,t⟩:=y
 simp only[B8r,hx,hy,zG1]
 by_cases h1:a=c
 ·subst h1
  by_cases h2:b=d
  ·subst h2
   simp only[if_true]
   obtain⟨g1,g2⟩:=C5i s.toList t.toList
   refine⟨g1,?_⟩
   rw[g2]
   simp[E7n]
  ·simp only[if_true,if_neg h2,if_neg (fun e:d=b=>h2 e.symm)]
   have:¬((a,(b,s)):B3u)=(a,(d,t)):=by simp[h2]
   rw[zK this]
   by_cases h3:b<d
   ·simp[h3];omega
   ·have:d<b:=by omega
    simp[h3,this]
 ·simp only[if_neg h1,if_neg (fun e:c=a=>h1 e.symm)]
  have:¬((a,(b,s)):B3u)=(c,(d,t)):=by simp[h1]
  rw[zK this]
  by_cases h3:a<c
  ·simp[h3];omega
  ·have:c<a:=by omega
   simp[h3,this]
theorem D6z (s:ByteArray)(a b:Nat):sI (s.extract a b)=((sI s).drop a).take (b - a):=by
 unfold sI
 rw[ByteArray.data_extract,Array.toList_extract,List.extract_eq_drop_take,List.map_take,List.map_drop]
theorem C4m (a b:ByteArray):sI (a++b)=sI a++sI b:=by simp[sI,ByteArray.data_append]
theorem F72 {a b:ByteArray}(h:sI a=sI b):a=b:=by
 apply C1x
 unfold sI at h
 refine List.map_inj_right (f:=fun b:UInt8=>(b.toNat:Int)) (fun x y e=>?_)|>.mp h
 exact UInt8.toNat.inj (by omega)
def spl (c:Int):List Int→List Int→List (List Int)
 |[],cur=>[cur]
 |b::t,cur=>if b=c then cur::spl c t []else spl c t (cur++[b])
theorem E57 (s:ByteArray)(c:Int):∀(t:List UInt8) (k f:Nat) (acc:List ByteArray),s.data.toList.drop k=t→k≤s.size→f≤k→
  (D1x s c t k f acc).map sI=acc.map sI++spl c (t.map fun b=>(b.toNat:Int)) (((sI s).drop f).take (k - f))
 |[],k,f,acc,hd,hk,hf=>by simp[D1x,spl,D6z]
 |b::t,k,f,acc,hd,hk,hf=>by
  have hd':(sI s).drop k=(b.toNat:Int)::t.map fun b=>(b.toNat:Int):=by
   unfold sI;rw[←List.map_drop,hd];rfl
  have hlt:k<s.size:=by
   have:=congrArg List.length hd
   simp only[List.length_drop,B3v,zW]at this;omega
  have hd2:s.data.toList.drop (k+1)=t:=by rw[←List.drop_drop,hd];rfl
  simp only[D1x,List.map_cons,spl]
  split
  ·rename_i h
   rw[E57 s c t (k+1) (k+1) _ hd2 (by omega) (by omega)]
   simp[D6z]
  ·rw[E57 s c t (k+1) f _ hd2 (by omega) (by omega)]
   congr 2
   have h1:((sI s).drop f)[k - f]?=some (b.toNat:Int):=by
    rw[List.getElem?_drop,show f+(k - f)=k by omega]
    have:=congrArg (fun l:List Int=>l[0]?) hd'
    simpa[List.getElem?_drop]using this
   rw[show k+1 - f=(k - f)+1 by omega,List.take_add_one,h1]
   rfl
theorem F2g (s:ByteArray)(c:Int):(B2v s c).map sI=spl c (sI s) []:=by
 rw[B2v,E57 s c s.data.toList 0 0 [] rfl (by omega) (by omega)]
 simp[sI]
def C53 (s:ByteArray):Prop:=∀x∈sI s,x≠32
theorem D9i {c:Int}:∀(x rest cur:List Int),(∀b∈x,b≠c)→spl c (x++rest) cur=spl c rest (cur++x)
 |[],rest,cur,_=>by simp
 |b::x,rest,cur,h=>by
  simp only[List.cons_append,spl]
  rw[if_neg (h b (zM ..)),D9i x rest _ fun y hy=>h y (zF _ hy)]
  simp
theorem F1c:∀(r:List ByteArray) (acc:ByteArray),sI (B8w 1 acc r)=sI acc++r.flatMap fun w=>32::sI w
 |[],acc=>by simp[C9u]
 |w::r,acc=>by
  rw[B3y,F1c r,C4m,C4m,zV]
  have:sI C70=[32]:=by decide
  rw[this];simp
theorem F3h:∀(r:List ByteArray) (cur:List Int),(∀w∈r,C53 w)→spl 32 (r.flatMap fun w=>32::sI w) cur=cur::r.map sI
 |[],cur,_=>rfl
 |w::r,cur,h=>by
  rw[zV,List.cons_append,spl,if_pos rfl,D9i _ _ _ (h w (zM ..)),F3h r _ fun y hy=>h y (zF _ hy)]
  simp
theorem D6s:∀{l m:List ByteArray},l.map sI=m.map sI→l=m
 |[],[],_=>rfl
 |[],_::_,h=>by simp at h
 |_::_,[],h=>by simp at h
 |a::l,b::m,h=>by
  simp only[List.map_cons,List.cons.injEq]at h
  rw[F72 h.1,D6s h.2]
theorem E59 {L:List ByteArray}(h0:L≠[])(h:∀w∈L,C53 w):B2v (B8p L) 32=L:=by
 cases L with
 |nil=>exact absurd rfl h0
 |cons a r=>
  apply D6s
  rw[F2g,join_cons,F1c,D9i _ _ _ (h a (zM ..)),F3h r _ fun y hy=>h y (zF _ hy)]
  simp
theorem C3a {s:ByteArray}(h:B3k s=true):C53 s:=by
 simp only[B3k,zJ,List.all_eq_true]at h
 intro x hx
 obtain⟨b,hb,rfl⟩:=List.mem_map.mp hx
 have:=h.1 b hb
 simp only[lower,zG]at this
 omega
def wTo:ByteArray:=⟨#[116,111]⟩
theorem F50:∀d:Fin 10,sI (dig (d.val:Int))=[48+(d.val:Int)]:=by decide
theorem C7n:∀(f:Nat) (a:Int),0≤a→∀x∈sI (C52 f a),48≤x∧x≤57
 |0,a,_,x,hx=>by
  have:sI (C52 0 a)=[]:=(by decide:sI E0=[])
  rw[this]at hx;simp at hx
 |f+1,a,h,x,hx=>by
  have one:∀d:Int,0≤d→d<10→∀x∈sI (dig d),48≤x∧x≤57:=by
   intro d h0 h1 x hx
   obtain⟨d,rfl⟩:=Int.eq_ofNat_of_zero_le h0
   rw[F50 ⟨d,by omega⟩]at hx
   simp at hx;subst hx;omega
  simp only[C52]at hx
  split at hx
  ·rename_i hlt
   exact one a h hlt x hx
  ·rw[C4m]at hx
   rcases zY.mp hx with hx|hx
   ·exact C7n f (a / 10) (by omega) x hx
   ·exact one (a % 10) (by omega) (by omega) x hx
theorem F05 (a:Int):∀x∈sI (B30 a),x≠32∧x≤57:=by
 intro x hx
 unfold B30 at hx
 split at hx
 ·split at hx
  ·rw[C4m]at hx
   rcases zY.mp hx with hx|hx
   ·have:sI F02=[45]:=by decide
    rw[this]at hx;simp at hx;omega
   ·have:=C7n 14 (-a) (by omega) x hx;omega
  ·have:=C7n 14 a (by omega) x hx;omega
 ·have:sI E0=[]:=by decide
  rw[this]at hx;simp at hx
theorem F09:∀(t:List UInt8),∀x∈B4w t,x≠32
 |[],x,hx=>by simp[B4w]at hx
 |b::t,x,hx=>by
  have hh:∀k:Fin 16,C7p k.val≠32:=by decide
  simp only[B4w]at hx
  rcases zY.mp hx with hx|hx
  ·unfold C5d at hx
   split at hx
   ·rename_i hp
    have hp:33≤b.toNat:=hp.1
    simp at hx;omega
   ·have hb:b.toNat<256:=b.toNat_lt
    simp at hx
    rcases hx with hx|hx|hx
    ·omega
    ·rw[hx];exact hh ⟨b.toNat / 16,by omega⟩
    ·rw[hx];exact hh ⟨b.toNat % 16,by omega⟩
  ·exact F09 t x hx
theorem D9u {v:B3u}(h:vOk v=true):C53 (B2l v)∧B2l v≠wTo:=by
 have hne:B2l v≠E0:=E7o h rfl
 unfold vOk at h
 unfold B2l at hne⊢
 rw[if_pos h]at hne⊢
 split
 ·exact⟨by unfold C53;decide,by decide⟩
 ·split
  ·unfold C92
   split
   ·exact⟨by unfold C53;decide,by decide⟩
   ·exact⟨by unfold C53;decide,by decide⟩
  ·split
   ·refine⟨fun x hx=>(F05 _ x hx).1,fun e=>?_⟩
    have:=(F05 v.2.1 116 (by rw[e];decide)).2
    omega
   ·rw[C53,D03]
    refine⟨fun x hx=>?_,fun e=>?_⟩
    ·rcases List.mem_cons.mp hx with rfl|hx
     ·decide
     ·rcases zY.mp hx with hx|hx
      ·exact F09 _ x hx
      ·simp at hx;omega
    ·have:=congrArg sI e
     rw[D03]at this
     have hs:sI wTo=[116,111]:=by decide
     rw[hs]at this
     simp at this

noncomputable def D0a (l:List ByteArray):B2g:=l.map fun x=>if(cTV x).2.1=true then(cTV x).1 else(-1,(0,E0))
noncomputable def C4z (l:List ByteArray):B2g:=(l.map fun x=>(cTV x).1).take 9
theorem E52 {v:B3u}(h:vOk v=true)(hs:(B2l v).size≤1048576):cTV (B2l v)=(v,(true,())):=by
 obtain⟨n,hn⟩:=C6s.get
 obtain⟨r,_,h1,h2⟩:=hn (B2l v) hs
 rw[F0t h1 h2];exact h2 v h rfl
def Reads (R:List ByteArray→B2g):Prop:=∀l:B2g,l.all vOk=true→l.length≤8→(∀t∈B3f l,t.size≤1048576)→R (B3f l)=l
theorem E49:Reads D0a:=by
 intro l
 induction l with
 |nil=>intro _ _ _;rfl
 |cons v l ih=>
  intro h h8 hs
  simp only[List.all_cons,zJ]at h
  have e:=E52 h.1 (hs _ (zM ..))
  have ih:=ih h.2 (by simp at h8;omega) fun t ht=>hs t (zF _ ht)
  show(if(cTV (B2l v)).2.1=true then(cTV (B2l v)).1 else(-1,(0,E0)))::D0a (B3f l)=_
  rw[e,ih];rfl
theorem D9c:Reads C4z:=by
 intro l h h8 hs
 have:∀l:B2g,l.all vOk=true→(∀t∈B3f l,t.size≤1048576)→((B3f l).map fun x=>(cTV x).1)=l:=by
  intro l
  induction l with
  |nil=>intro _ _;rfl
  |cons v l ih=>
   intro h hs
   simp only[List.all_cons,zJ]at h
   have e:=E52 h.1 (hs _ (zM ..))
   have ih:=ih h.2 fun t ht=>hs t (zF _ ht)
   show(cTV (B2l v)).1::((B3f l).map fun x=>(cTV x).1)=_
   rw[e,ih]
 unfold C4z
 rw[this l h hs,List.take_of_length_le (by omega)]
theorem E7p {l:List ByteArray}(h:C8f l)(hl:l.length≤1048576):B50 1048576 (D0a l):=by
 refine⟨by simpa[D0a]using hl,fun v hv=>?_⟩
 obtain⟨x,hx,rfl⟩:=List.mem_map.mp hv
 split
 ·exact E0q (h.2 x hx)
 ·exact(by decide:E0.size≤1048576)
theorem C8e {l:List ByteArray}(h:C8f l):B50 1048576 (C4z l):=by
 refine⟨by simp[C4z];omega,fun v hv=>?_⟩
 obtain⟨x,hx,rfl⟩:=List.mem_map.mp (List.mem_of_mem_take hv)
 exact E0q (h.2 x hx)
theorem E5q:EV fun n=>∀l:List ByteArray,C8f l→C1p n l=some (D0a l):=(D3p.and (EV.gt 1048578)).up fun n ⟨hT,hn⟩ l hl=>by
 have h1:=hl.1
 rw[C1p]
 refine(C4j l (fun x=>if(cTV x).2.1=true then(cTV x).1 else(-1,(0,E0))) (fun j k s=>B7t n j l (l.length:Int) (k:Int) s) (fun j s=>by simp only[B7t,A7d,zP,zH,zA]) (fun j k s hk hs=>?_) l n 0 [] rfl (by omega) (by omega) rfl).trans (by rfl)
 have hr:∀v:B3u,room (s.length+[v].length) 32=true:=fun v=>F6v (by simp;omega)
 simp only[B7t,A7d,zD hk,R1 hk,zE,getD_at hk,zB,B26 hk (by omega),hT _ (hl.2 _ (zL hk)),zC]
 cases hc:(cTV l[k]).2.1
 ·simp only[zU,zB,hr];rfl
 ·simp only[zT,zA,hr,if_true];rfl
theorem E3c:EV fun n=>∀l:List ByteArray,C8f l→C0l n l=some (C4z l):=(D40.and (EV.gt 1048578)).up fun n ⟨hT,hn⟩ l hl=>by
 have h1:=hl.1
 rw[C0l]
 have fold:∀(l:List ByteArray) (acc:B2g),acc.length≤9→l.foldl (fun(acc:B2g) x=>if acc.length≤8 then acc++[(cTV x).1]else acc) acc=acc++(l.map fun x=>(cTV x).1).take (9 - acc.length):=by
  intro l
  induction l with
  |nil=>intro acc _;simp
  |cons x l ih=>
   intro acc ha
   simp only[List.foldl_cons,List.map_cons]
   by_cases h:acc.length≤8
   ·rw[if_pos h,ih _ (by simp;omega),show 9 - acc.length=(9 - (acc.length+1))+1 by omega]
    simp
   ·rw[if_neg h,ih _ ha,show 9 - acc.length=0 by omega]
    simp
 refine(D04 l (fun x (acc:B2g)=>some (if acc.length≤8 then acc++[(cTV x).1]else acc)) (fun j k s=>B6u n j l (l.length:Int) (k:Int) s) (fun s=>some s) none (fun s=>s.length≤9) (fun x _ s s' hs h=>?_) (fun j s _=>by simp only[B6u,A7d,zP,zH,zA]) (fun j k s hk hs=>?_) l n 0 [] rfl (by omega) (by omega) (by simp)).trans ?_
 ·obtain rfl:=oI h
  split
  ·simp;omega
  ·exact hs
 ·have hr:∀v:B3u,room (s.length+[v].length) 32=true:=fun v=>F6v (by simp;omega)
  simp only[B6u,A7d,zD hk,R1 hk,zE,getD_at hk,zB,B26 hk (by omega),hT _ (hl.2 _ (zL hk)),zC,after]
  by_cases c:s.length≤8
  ·have:decide ((s.length:Int)≤8)=true:=zD (by omega)
   simp only[this,zB,hr,if_pos c]
  ·have:decide ((s.length:Int)≤8)=false:=zK (by omega)
   simp only[this,zA,if_neg c]
 ·rw[D4f,fold l [] (by simp)]
  rfl
def pTo (x:ByteArray):Bool:=decide (x=wTo)
theorem E8j:EV fun n=>∀l:List ByteArray,l.length≤1048577→D0s n l=some (if idx pTo l<0 then(l.length:Int)else idx pTo l):=(EV.gt 1048578).up fun n hn l hl=>by
 rw[D0s]
 have:∀(t:List ByteArray) (j k:Nat),l.drop k=t→k≤l.length→t.length<j→C1b n j l l (l.length:Int) (k:Int)=some (if idxFrom pTo t k<0 then(l.length:Int)else idxFrom pTo t k):=by
  intro t
  induction t with
  |nil=>
   intro j k hd hk hj
   obtain⟨j,rfl⟩:∃j',j=j'+1:=⟨j - 1,by omega⟩
   have:k=l.length:=by have:=congrArg List.length hd;simp at this;omega
   subst this
   simp only[C1b,A7d,zP,zH,zA,idxFrom];rfl
  |cons x t ih=>
   intro j k hd hk hj
   obtain⟨j,rfl⟩:∃j',j=j'+1:=⟨j - 1,by omega⟩
   obtain⟨h2,h3,h4⟩:=B32 hd x
   have hx:l[k]=x:=by simpa[List.getD,h2]using h3
   simp only[C1b,A7d,zD h2,R1 h2,zE,getD_at h2,hx,zB,B26 h2 (by omega),B2p,show(⟨#[116,111]⟩:ByteArray)=wTo from rfl]
   by_cases hc:x=wTo
   ·have e2:idxFrom pTo (x::t) k=(k:Int):=by simp[idxFrom,pTo,hc]
    rw[e2,if_neg (by omega)]
    simp only[hc,zI,zB]
   ·have e2:idxFrom pTo (x::t) k=idxFrom pTo t (k+1):=by simp[idxFrom,pTo,hc]
    rw[e2]
    simp only[hc,zH,zA]
    exact ih j (k+1) h4 (by omega) (by simp at hj;omega)
 exact this l n 0 rfl (by omega) (by omega)
def C2f:B3t:=(0,(E0,([],([],B41))))
def C94 (x:B3t)(s:ByteArray):B3t×(Bool×Unit):=if B2f x=s then(x,(true,()))else(C2f,(false,()))
theorem C67 (x:B3t)(s:ByteArray):(bif !(decide (B2f x=s))then some (C2f,(false,()))else some (x,(true,())))=some (C94 x s):=by
 unfold C94
 by_cases h:B2f x=s<;>simp[h]
theorem C9s {x:B3t}{s:ByteArray}(h:B2f x≠s):C94 x s=(C2f,(false,())):=by simp[C94,h]
theorem C2b {x:B3t}{s:ByteArray}(hs:s≠E0)(h:B3l x=false):B2f x≠s:=by
 simp only[B2f,h];exact fun e=>hs e.symm
theorem C91 {x:B3t}{s:ByteArray}(hs:s≠E0)(h:B2f x=s):B3l x=true:=by
 cases hc:B3l x with
 |true=>rfl
 |false=>exact absurd h (C2b hs hc)
theorem C3s {l:B2g}(h:l.all vOk=true):∀t∈B3f l,C53 t∧t≠wTo:=by
 intro t ht
 obtain⟨v,hv,rfl⟩:=List.mem_map.mp ht
 exact D9u (List.all_eq_true.mp h v hv)
def C4w:ByteArray:=⟨#[105,110,115,101,114,116]⟩
def C6w:ByteArray:=⟨#[117,112,100,97,116,101]⟩
def C9d:ByteArray:=⟨#[100,101,108,101,116,101]⟩
def D20:ByteArray:=⟨#[99,108,101,97,114]⟩
theorem F38:C53 C4w:=by unfold C53;decide
theorem F6r:C53 C6w:=by unfold C53;decide
theorem F6q:C53 C9d:=by unfold C53;decide
theorem F7s:C53 wTo:=by unfold C53;decide
theorem F3v {s:ByteArray}{L:List ByteArray}(h:B8p L=s)(h0:L≠[])(hL:∀w∈L,C53 w):B2v s 32=L:=by rw[←h];exact E59 h0 hL
theorem C9q {l:B2g}(h:B6a l=true):l.all vOk=true∧l.length≤8:=by
 simp only[B6a,zJ,zG]at h
 exact⟨h.2,h.1.2⟩
theorem F2y {s:ByteArray}{R:List ByteArray→B2g}(hs:s≠E0)(h:B2f (1,((B2v s 32).getD 1 E0,([],(R ((B2v s 32).drop 2),B41))))=s):
  ∃l:B2g,(B2v s 32).drop 2=B3f l∧l.all vOk=true∧l.length≤8∧R ((B2v s 32).drop 2)=l:=by
 have hok:=C91 hs h
 generalize hl:R ((B2v s 32).drop 2)=l at h hok
 unfold B2f at h
 rw[if_pos hok,if_pos rfl]at h
 simp[B3l]at hok
 obtain⟨hk,h8⟩:=C9q hok.2
 have:=F3v h (by simp) (fun w hw=>by
  rcases zY.mp hw with hw|hw
  ·simp at hw
   rcases hw with rfl|rfl
   ·exact F38
   ·simpa using C3a hok.1
  ·exact(C3s hk w hw).1)
 exact⟨l,by rw[this];rfl,hk,h8,rfl⟩
theorem F2n {s:ByteArray}{R:List ByteArray→B2g}(hs:s≠E0)(h:B2f (3,((B2v s 32).getD 1 E0,(R ((B2v s 32).drop 2),([],B41))))=s):
  ∃l:B2g,(B2v s 32).drop 2=B3f l∧l.all vOk=true∧l.length≤8∧R ((B2v s 32).drop 2)=l:=by
 have hok:=C91 hs h
 generalize hl:R ((B2v s 32).drop 2)=l at h hok
 unfold B2f at h
 rw[if_pos hok,if_neg (show¬(3:Int)=1 by decide),if_neg (show¬(3:Int)=2 by decide),if_pos rfl]at h
 simp[B3l]at hok
 obtain⟨hk,h8⟩:=C9q hok.2
 have:=F3v h (by simp) (fun w hw=>by
  rcases zY.mp hw with hw|hw
  ·simp at hw
   rcases hw with rfl|rfl
   ·exact F6q
   ·simpa using C3a hok.1
  ·exact(C3s hk w hw).1)
 exact⟨l,by rw[this];rfl,hk,h8,rfl⟩
theorem E0x {p:ByteArray→Bool}:∀(l m:List ByteArray) (x:ByteArray) (k:Nat),(∀y∈l,p y=false)→p x=true→idxFrom p (l++x::m) k=((k+l.length:Nat):Int)
 |[],m,x,k,_,hx=>by simp[idxFrom,hx]
 |y::l,m,x,k,h,hx=>by
  simp only[List.cons_append,idxFrom,h y (zM ..),if_neg (show¬(false=true)by decide),zW]
  rw[E0x l m x (k+1) (fun z hz=>h z (zF _ hz)) hx]
  omega
theorem F3o {s:ByteArray}{R:List ByteArray→B2g}{i:Nat}(hs:s≠E0)(hi:idx pTo ((B2v s 32).drop 2)=(i:Int))
  (h:B2f (2,((B2v s 32).getD 1 E0,(R (((B2v s 32).drop 2).take i),(R (((B2v s 32).drop 2).drop (i+1)),B41))))=s):
  ∃k v:B2g,((B2v s 32).drop 2).take i=B3f k∧((B2v s 32).drop 2).drop (i+1)=B3f v∧k.all vOk=true∧k.length≤8∧v.all vOk=true∧v.length≤8∧R (((B2v s 32).drop 2).take i)=k∧R (((B2v s 32).drop 2).drop (i+1))=v:=by
 have hok:=C91 hs h
 generalize hl:R (((B2v s 32).drop 2).take i)=k at h hok
 generalize hm:R (((B2v s 32).drop 2).drop (i+1))=v at h hok
 unfold B2f at h
 rw[if_pos hok,if_neg (show¬(2:Int)=1 by decide),if_pos rfl]at h
 simp[B3l]at hok
 obtain⟨hk,h8⟩:=C9q hok.2.1
 obtain⟨hv,v8⟩:=C9q hok.2.2
 have hc:=F3v h (by simp) (fun w hw=>by
  rcases zY.mp hw with hw|hw
  ·rcases zY.mp hw with hw|hw
   ·rcases zY.mp hw with hw|hw
    ·simp at hw
     rcases hw with rfl|rfl
     ·exact F6r
     ·simpa using C3a hok.1
    ·exact(C3s hk w hw).1
   ·simp at hw;subst hw;exact F7s
  ·exact(C3s hv w hw).1)
 have hd:(B2v s 32).drop 2=B3f k++wTo::B3f v:=by
  rw[hc];simp;rfl
 have hlen:i=(B3f k).length:=by
  rw[hd]at hi
  have:=E0x (p:=pTo) (B3f k) (B3f v) wTo 0 (fun y hy=>zK (C3s hk y hy).2) (zD rfl)
  unfold idx at hi
  rw[this]at hi;omega
 refine⟨k,v,?_,?_,hk,h8,hv,v8,rfl,rfl⟩
 ·rw[hd,hlen,List.take_left]
 ·rw[hd,hlen,←List.drop_drop,List.drop_left];rfl
theorem F4j {s:ByteArray}(hs:s≠E0)(hz:s.size≤1048576)(T:ByteArray)(hT:T=(B2v s 32).getD 1 E0):C94 (1,(T,([],(D0a ((B2v s 32).drop 2),B41)))) s=C94 (1,(T,([],(C4z ((B2v s 32).drop 2),B41)))) s:=by
 subst hT
 have small:∀l:B2g,(B2v s 32).drop 2=B3f l→∀t∈B3f l,t.size≤1048576:=fun l hl t ht=>(B70 32 hz).2 t (List.mem_of_mem_drop (by rw[hl];exact ht))
 by_cases h1:B2f (1,((B2v s 32).getD 1 E0,([],(D0a ((B2v s 32).drop 2),B41))))=s
 ·obtain⟨l,e,a,b,c⟩:=F2y hs h1
  rw[c,e,D9c l a b (small l e)]
 ·by_cases h2:B2f (1,((B2v s 32).getD 1 E0,([],(C4z ((B2v s 32).drop 2),B41))))=s
  ·obtain⟨l,e,a,b,c⟩:=F2y hs h2
   rw[c,e,E49 l a b (small l e)]
  ·rw[C9s h1,C9s h2]
theorem F4f {s:ByteArray}(hs:s≠E0)(hz:s.size≤1048576)(T:ByteArray)(hT:T=(B2v s 32).getD 1 E0):C94 (3,(T,(D0a ((B2v s 32).drop 2),([],B41)))) s=C94 (3,(T,(C4z ((B2v s 32).drop 2),([],B41)))) s:=by
 subst hT
 have small:∀l:B2g,(B2v s 32).drop 2=B3f l→∀t∈B3f l,t.size≤1048576:=fun l hl t ht=>(B70 32 hz).2 t (List.mem_of_mem_drop (by rw[hl];exact ht))
 by_cases h1:B2f (3,((B2v s 32).getD 1 E0,(D0a ((B2v s 32).drop 2),([],B41))))=s
 ·obtain⟨l,e,a,b,c⟩:=F2n hs h1
  rw[c,e,D9c l a b (small l e)]
 ·by_cases h2:B2f (3,((B2v s 32).getD 1 E0,(C4z ((B2v s 32).drop 2),([],B41))))=s
  ·obtain⟨l,e,a,b,c⟩:=F2n hs h2
   rw[c,e,E49 l a b (small l e)]
  ·rw[C9s h1,C9s h2]
theorem F4q {s:ByteArray}{i:Nat}(hs:s≠E0)(hz:s.size≤1048576)(hi:idx pTo ((B2v s 32).drop 2)=(i:Int))(T:ByteArray)(hT:T=(B2v s 32).getD 1 E0):
  C94 (2,(T,(D0a (((B2v s 32).drop 2).take i),(D0a (((B2v s 32).drop 2).drop (i+1)),B41)))) s=C94 (2,(T,(C4z (((B2v s 32).drop 2).take i),(C4z (((B2v s 32).drop 2).drop (i+1)),B41)))) s:=by
 subst hT
 have small:∀t∈(B2v s 32).drop 2,t.size≤1048576:=fun t ht=>(B70 32 hz).2 t (List.mem_of_mem_drop ht)
 by_cases h1:B2f (2,((B2v s 32).getD 1 E0,(D0a (((B2v s 32).drop 2).take i),(D0a (((B2v s 32).drop 2).drop (i+1)),B41))))=s
 ·obtain⟨k,v,e1,e2,a,b,c,d,f,g⟩:=F3o hs hi h1
  have s1:∀t∈B3f k,t.size≤1048576:=fun t ht=>small t (List.mem_of_mem_take (by rw[e1];exact ht))
  have s2:∀t∈B3f v,t.size≤1048576:=fun t ht=>small t (List.mem_of_mem_drop (by rw[e2];exact ht))
  rw[f,g,e1,e2,D9c k a b s1,D9c v c d s2]
 ·by_cases h2:B2f (2,((B2v s 32).getD 1 E0,(C4z (((B2v s 32).drop 2).take i),(C4z (((B2v s 32).drop 2).drop (i+1)),B41))))=s
  ·obtain⟨k,v,e1,e2,a,b,c,d,f,g⟩:=F3o hs hi h2
   have s1:∀t∈B3f k,t.size≤1048576:=fun t ht=>small t (List.mem_of_mem_take (by rw[e1];exact ht))
   have s2:∀t∈B3f v,t.size≤1048576:=fun t ht=>small t (List.mem_of_mem_drop (by rw[e2];exact ht))
   rw[f,g,e1,e2,E49 k a b s1,E49 v c d s2]
  ·rw[C9s h1,C9s h2]
theorem C9t (d:B3a)(s:ByteArray):(fin d s=(d,(true,()))∧B2w d=s)∨fin d s=(B41,(false,())):=by
 unfold fin
 split
 ·rename_i h;exact .inl ⟨rfl,h⟩
 ·exact .inr rfl
theorem E0s (s:ByteArray):(∃d:B3a,B5x s=(d,(true,()))∧B2w d=s∧d.2.1=(B2v s 32).getD 1 E0∧¬(B2v s 32).length<2∧((B2v s 32).getD 0 E0=B84∨(B2v s 32).getD 0 E0=C71∨(B2v s 32).getD 0 E0=D4q∨(B2v s 32).getD 0 E0=C9e∨(B2v s 32).getD 0 E0=C1w))∨B5x s=(B41,(false,())):=by
 unfold B5x
 split
 ·exact .inr rfl
 ·rename_i hl
  split
  ·rename_i h;rcases C9t (1,((B2v s 32).getD 1 E0,((C3w tyS ((B2v s 32).drop 2)).1,((C3w tyS ((B2v s 32).drop 2)).2,(E0,E0))))) s with⟨a,b⟩|a
   ·exact .inl ⟨_,a,b,rfl,hl,.inl h⟩
   ·exact .inr a
  ·split
   ·rename_i h;rcases C9t (2,((B2v s 32).getD 1 E0,([],([],(E0,E0))))) s with⟨a,b⟩|a
    ·exact .inl ⟨_,a,b,rfl,hl,.inr (.inl h)⟩
    ·exact .inr a
   ·split
    ·rename_i h;rcases C9t (3,((B2v s 32).getD 1 E0,([C2e tyS ((B2v s 32).drop 2)],([],(E0,E0))))) s with⟨a,b⟩|a
     ·exact .inl ⟨_,a,b,rfl,hl,.inr (.inr (.inl h))⟩
     ·exact .inr a
    ·split
     ·rename_i h;rcases C9t (4,((B2v s 32).getD 1 E0,([],([],((B2v s 32).getD 2 E0,E0))))) s with⟨a,b⟩|a
      ·exact .inl ⟨_,a,b,rfl,hl,.inr (.inr (.inr (.inl h.1)))⟩
      ·exact .inr a
     ·split
      ·rename_i h;rcases C9t (5,((B2v s 32).getD 1 E0,([],([],((B2v s 32).getD 2 E0,(B2v s 32).getD 3 E0))))) s with⟨a,b⟩|a
       ·exact .inl ⟨_,a,b,rfl,hl,.inr (.inr (.inr (.inr h.1)))⟩
       ·exact .inr a
      ·exact .inr rfl
noncomputable def B38 (s:ByteArray):B3t×(Bool×Unit):=if(B2v s 32).length<2 then(C2f,(false,()))else
 if(B2v s 32).getD 0 E0=C4w then C94 (1,((B2v s 32).getD 1 E0,([],(C4z ((B2v s 32).drop 2),B41)))) s else
 if(B2v s 32).getD 0 E0=C6w then(if idx pTo ((B2v s 32).drop 2)<0 then(C2f,(false,()))else C94 (2,((B2v s 32).getD 1 E0,(C4z (((B2v s 32).drop 2).take (idx pTo ((B2v s 32).drop 2)).toNat),(C4z (((B2v s 32).drop 2).drop ((idx pTo ((B2v s 32).drop 2)).toNat+1)),B41)))) s)else
 if(B2v s 32).getD 0 E0=C9d then C94 (3,((B2v s 32).getD 1 E0,(C4z ((B2v s 32).drop 2),([],B41)))) s else
 if(B2v s 32).getD 0 E0=D20 then C94 (4,((B2v s 32).getD 1 E0,([],([],B41)))) s else
 if(B5x s).2.1=true then((5,((B5x s).1.2.1,([],([],(B5x s).1)))),(true,()))else(C2f,(false,()))
theorem F63:EV fun n=>∀l:List ByteArray,l.length≤1048577→B2m n l wTo=some (idx pTo l):=(EV.gt 1048580).up fun m hn l hl=>by
 rw[B2m]
 refine B7i pTo l (fun j k=>B2e m j l wTo (l.length:Int) (k:Int)) (fun j=>by simp only[B2e,A7d,zP,zH,zA]) (fun j k hk=>?_) l m 0 rfl (by omega) (by omega)
 simp only[B2e,A7d,zD hk,R1 hk,zE,getD_at hk,zB,B26 hk (by omega),B2p,pTo]
 rw[B7h]
 by_cases h:l[k]=wTo
 ·simp[h]
 ·simp[h,show¬(wTo=l[k])from fun e=>h e.symm]
theorem E0z:EV fun n=>∀s:ByteArray,s.size≤1048576→C5p n s=some (B38 s):=(D5x.and (E2x.and (E5q.and (C9w.and F63)))).up fun n ⟨h1,h2,h3,hD,hn⟩ s hs=>by
 have hw:=B70 32 hs
 have hne:=@D6o s 32
 have hins:=fun h0=>F4j (s:=s) h0 hs _ rfl
 have hdel:=fun h0=>F4f (s:=s) h0 hs _ rfl
 have hupd:=fun(i:Nat) h0 hi=>F4q (s:=s) (i:=i) h0 hs hi _ rfl
 have hddl:=E0s s
 simp only[C5p,h1 s hs,h2 s hs,zC,B38]
 generalize B2v s 32=w at hw hne hins hdel hupd hddl⊢
 have n1:C4w≠B84∧C4w≠C71∧C4w≠D4q∧C4w≠C9e∧C4w≠C1w:=by decide
 have n2:C6w≠B84∧C6w≠C71∧C6w≠D4q∧C6w≠C9e∧C6w≠C1w:=by decide
 have n3:C9d≠B84∧C9d≠C71∧C9d≠D4q∧C9d≠C9e∧C9d≠C1w:=by decide
 have n4:D20≠B84∧D20≠C71∧D20≠D4q∧D20≠C9e∧D20≠C1w:=by decide
 have notd:∀v:ByteArray,w.getD 0 E0=v→(v≠B84∧v≠C71∧v≠D4q∧v≠C9e∧v≠C1w)→B5x s=(B41,(false,())):=by
  intro v hv ⟨a,b,c,d,e⟩
  rcases hddl with⟨_,_,_,_,_,h⟩|h
  ·rw[hv]at h
   rcases h with h|h|h|h|h
   ·exact absurd h a
   ·exact absurd h b
   ·exact absurd h c
   ·exact absurd h d
   ·exact absurd h e
  ·exact h
 by_cases hl:w.length<2
 ·have hz:B5x s=(B41,(false,())):=by
   rcases hddl with⟨_,_,_,_,h,_⟩|h
   ·exact absurd hl h
   ·exact h
  have e0:decide ((w.length:Int)<(2:Int))=true:=zD (by omega)
  rw[hz]
  simp only[zA,e0,zB,if_pos hl];rfl
 ·have hs0:=hne hl
  have hl1:=hw.1
  have hins:=hins hs0
  have hdel:=hdel hs0
  have e0:decide ((w.length:Int)<(2:Int))=false:=zK (by omega)
  have e1:inR (0:Int) w.length=true:=R1 (k:=0) (by omega)
  have e2:inR (1:Int) w.length=true:=R1 (k:=1) (by omega)
  have e3:decide (0≤(2:Int)∧(2:Int)≤((w.length:Nat):Int)∧((w.length:Nat):Int)≤(w.length:Int))=true:=zD ⟨by omega,by omega,by omega⟩
  have zv:B50 1048576 []:=⟨by simp,by simp⟩
  have d2:=hw.drop 2
  have dl:(w.drop 2).length≤1048575:=by simp;omega
  have DD:∀(k:Int) (a b:B2g),B50 1048576 a→B50 1048576 b→B4m n k (w.getD 1 E0) a b 0 E0 [] [] E0 E0=some (B2f (k,(w.getD 1 E0,(a,(b,B41))))):=fun k a b g1 g2=>hD (k,(w.getD 1 E0,(a,(b,B41)))) ⟨hw.get 1,g1,g2,C0v⟩
  have V:=h3 (w.drop 2) d2
  have Vs:=E7p d2 (by omega)
  have hI:=hn (w.drop 2) d2.1
  have D0:=DD 0 [] [] zv zv
  have bad0:B2f (0,(w.getD 1 E0,([],([],B41))))≠s:=C2b hs0 (by simp[B3l])
  by_cases c1:w.getD 0 E0=C4w
  ·rw[notd _ c1 n1]
   have D1:=DD 1 [] _ zv Vs
   simp only[zA,e0,e1,e2,e3,zB,if_neg hl,if_pos c1,B2p,C24,show(0:Int).toNat=0 from rfl,show(1:Int).toNat=1 from rfl,show(2:Int).toNat=2 from rfl,show(⟨#[]⟩:ByteArray)=E0 from rfl,show(⟨#[105,110,115,101,114,116]⟩:ByteArray)=C4w from rfl,zD c1,V,zC,D1]
   rw[←hins];exact C67 _ _
  ·by_cases c2:w.getD 0 E0=C6w
   ·rw[notd _ c2 n2]
    have c1':decide (C6w=C4w)=false:=by decide
    simp only[zA,e0,e1,e2,e3,zB,if_neg hl,if_neg c1,if_pos c2,B2p,C24,show(0:Int).toNat=0 from rfl,show(1:Int).toNat=1 from rfl,show(2:Int).toNat=2 from rfl,show(⟨#[]⟩:ByteArray)=E0 from rfl,show(⟨#[105,110,115,101,114,116]⟩:ByteArray)=C4w from rfl,show(⟨#[117,112,100,97,116,101]⟩:ByteArray)=C6w from rfl,show(⟨#[116,111]⟩:ByteArray)=wTo from rfl,zK c1,zD c2,hI,zC]
    by_cases hc:idx pTo (w.drop 2)<0
    ·have q0:decide ((0:Int)≤idx pTo (w.drop 2))=false:=zK (by omega)
     have D2:=DD 2 [] [] zv zv
     have bad2:B2f (2,(w.getD 1 E0,([],([],B41))))≠s:=C2b hs0 (by simp[B3l,B6a])
     simp only[q0,zA,if_pos hc,D2,zC,zK bad2,zU,zB];rfl
    ·obtain⟨g1,g2⟩:=C1m pTo (w.drop 2)
     obtain⟨e,he⟩:=Int.eq_ofNat_of_zero_le (show 0≤idx pTo (w.drop 2)by omega)
     have hu:=hupd e hs0 he
     rw[he]at hc g2⊢
     simp only[List.length_drop]at g2 dl
     have q0:decide ((0:Int)≤(e:Int))=true:=zD (by omega)
     have q1:decide (0≤((0:Nat):Int)∧((0:Nat):Int)≤(e:Int)∧(e:Int)≤((w.length - 2:Nat):Int))=true:=zD ⟨by omega,by omega,by omega⟩
     have q3:IntKind.wrap .i64 ((e:Int)+(1:Int))=((e+1:Nat):Int):=B26 (Nat.lt_succ_self e) (by omega)
     have q4:decide (0≤((e+1:Nat):Int)∧((e+1:Nat):Int)≤((w.length - 2:Nat):Int)∧((w.length - 2:Nat):Int)≤((w.length - 2:Nat):Int))=true:=zD ⟨by omega,by omega,by omega⟩
     have t1:(w.drop (2+0)).take (e - 0)=(w.drop 2).take e:=rfl
     have t2:(w.drop (2+(e+1))).take (w.length - 2 - (e+1))=(w.drop 2).drop (e+1):=by
      rw[List.take_of_length_le (by simp;omega),List.drop_drop]
     have V1:=h3 _ (d2.take e)
     have V2:=h3 _ (d2.drop (e+1))
     have D2:=DD 2 _ _ (E7p (d2.take e) (by simp;omega)) (E7p (d2.drop (e+1)) (by simp;omega))
     simp only[q0,q1,q3,q4,zB,if_neg hc,t1,t2,V1,V2,D2,zC,zE]
     rw[←hu];exact C67 _ _
   ·by_cases c3:w.getD 0 E0=C9d
    ·rw[notd _ c3 n3]
     have D3:=DD 3 _ [] Vs zv
     simp only[zA,e0,e1,e2,e3,zB,if_neg hl,if_neg c1,if_neg c2,if_pos c3,B2p,C24,show(0:Int).toNat=0 from rfl,show(1:Int).toNat=1 from rfl,show(2:Int).toNat=2 from rfl,show(⟨#[]⟩:ByteArray)=E0 from rfl,show(⟨#[105,110,115,101,114,116]⟩:ByteArray)=C4w from rfl,show(⟨#[117,112,100,97,116,101]⟩:ByteArray)=C6w from rfl,show(⟨#[100,101,108,101,116,101]⟩:ByteArray)=C9d from rfl,zK c1,zK c2,zD c3,V,zC,D3]
     rw[←hdel];exact C67 _ _
    ·by_cases c4:w.getD 0 E0=D20
     ·rw[notd _ c4 n4]
      have D4:=DD 4 [] [] zv zv
      simp only[zA,e0,e1,e2,e3,zB,if_neg hl,if_neg c1,if_neg c2,if_neg c3,if_pos c4,B2p,C24,show(0:Int).toNat=0 from rfl,show(1:Int).toNat=1 from rfl,show(2:Int).toNat=2 from rfl,show(⟨#[]⟩:ByteArray)=E0 from rfl,show(⟨#[105,110,115,101,114,116]⟩:ByteArray)=C4w from rfl,show(⟨#[117,112,100,97,116,101]⟩:ByteArray)=C6w from rfl,show(⟨#[100,101,108,101,116,101]⟩:ByteArray)=C9d from rfl,show(⟨#[99,108,101,97,114]⟩:ByteArray)=D20 from rfl,zK c1,zK c2,zK c3,zD c4,zC,D4]
      exact C67 _ _
     ·rw[if_neg hl,if_neg c1,if_neg c2,if_neg c3,if_neg c4]
      rcases hddl with⟨d,h,_⟩|h
      ·rw[h];rfl
      ·rw[h]
       simp only[zA,e0,e1,e2,e3,zB,B2p,C24,show(0:Int).toNat=0 from rfl,show(1:Int).toNat=1 from rfl,show(2:Int).toNat=2 from rfl,show(⟨#[]⟩:ByteArray)=E0 from rfl,show(⟨#[105,110,115,101,114,116]⟩:ByteArray)=C4w from rfl,show(⟨#[117,112,100,97,116,101]⟩:ByteArray)=C6w from rfl,show(⟨#[100,101,108,101,116,101]⟩:ByteArray)=C9d from rfl,show(⟨#[99,108,101,97,114]⟩:ByteArray)=D20 from rfl,zK c1,zK c2,zK c3,zK c4,zC,D0,zK bad0,zU];rfl
theorem E1b:EV fun n=>∀s:ByteArray,s.size≤1048576→C61 n s=some (B38 s):=(D62.and (E35.and (E3c.and (D07.and E8j)))).up fun n ⟨h1,h2,h3,hD,hn⟩ s hs=>by
 have hw:=B70 32 hs
 have hne:=@D6o s 32
 have hins:=fun h0=>F4j (s:=s) h0 hs _ rfl
 have hdel:=fun h0=>F4f (s:=s) h0 hs _ rfl
 have hupd:=fun(i:Nat) h0 hi=>F4q (s:=s) (i:=i) h0 hs hi _ rfl
 have hddl:=E0s s
 simp only[C61,h1 s hs,h2 s hs,zC,B38]
 generalize B2v s 32=w at hw hne hins hdel hupd hddl⊢
 have n1:C4w≠B84∧C4w≠C71∧C4w≠D4q∧C4w≠C9e∧C4w≠C1w:=by decide
 have n2:C6w≠B84∧C6w≠C71∧C6w≠D4q∧C6w≠C9e∧C6w≠C1w:=by decide
 have n3:C9d≠B84∧C9d≠C71∧C9d≠D4q∧C9d≠C9e∧C9d≠C1w:=by decide
 have n4:D20≠B84∧D20≠C71∧D20≠D4q∧D20≠C9e∧D20≠C1w:=by decide
 have notd:∀v:ByteArray,w.getD 0 E0=v→(v≠B84∧v≠C71∧v≠D4q∧v≠C9e∧v≠C1w)→B5x s=(B41,(false,())):=by
  intro v hv ⟨a,b,c,d,e⟩
  rcases hddl with⟨_,_,_,_,_,h⟩|h
  ·rw[hv]at h
   rcases h with h|h|h|h|h
   ·exact absurd h a
   ·exact absurd h b
   ·exact absurd h c
   ·exact absurd h d
   ·exact absurd h e
  ·exact h
 by_cases hl:w.length<2
 ·have hz:B5x s=(B41,(false,())):=by
   rcases hddl with⟨_,_,_,_,h,_⟩|h
   ·exact absurd hl h
   ·exact h
  have e0:decide ((w.length:Int)<(2:Int))=true:=zD (by omega)
  simp only[e0,zB,if_pos hl];rfl
 ·have hs0:=hne hl
  have hl1:=hw.1
  have hins:=hins hs0
  have hdel:=hdel hs0
  have e0:decide ((w.length:Int)<(2:Int))=false:=zK (by omega)
  have e1:inR (0:Int) w.length=true:=R1 (k:=0) (by omega)
  have e2:inR (1:Int) w.length=true:=R1 (k:=1) (by omega)
  have e3:decide (0≤(2:Int)∧(2:Int)≤((w.length:Nat):Int)∧((w.length:Nat):Int)≤(w.length:Int))=true:=zD ⟨by omega,by omega,by omega⟩
  have zv:B50 1048576 []:=⟨by simp,by simp⟩
  have d2:=hw.drop 2
  have dl:(w.drop 2).length≤1048575:=by simp;omega
  have DD:∀(k:Int) (a b:B2g),B50 1048576 a→B50 1048576 b→B4p n k (w.getD 1 E0) a b 0 E0 [] [] E0 E0=some (B2f (k,(w.getD 1 E0,(a,(b,B41))))):=fun k a b g1 g2=>hD (k,(w.getD 1 E0,(a,(b,B41)))) ⟨hw.get 1,g1,g2,C0v⟩
  have V:=h3 (w.drop 2) d2
  have Vs:=C8e d2
  have hI:=hn (w.drop 2) d2.1
  have D0:=DD 0 [] [] zv zv
  have bad0:B2f (0,(w.getD 1 E0,([],([],B41))))≠s:=C2b hs0 (by simp[B3l])
  by_cases c1:w.getD 0 E0=C4w
  ·have D1:=DD 1 [] _ zv Vs
   simp only[zA,e0,e1,e2,e3,zB,if_neg hl,if_pos c1,B2p,C24,show(0:Int).toNat=0 from rfl,show(1:Int).toNat=1 from rfl,show(2:Int).toNat=2 from rfl,show(⟨#[]⟩:ByteArray)=E0 from rfl,show(⟨#[105,110,115,101,114,116]⟩:ByteArray)=C4w from rfl,zD c1,V,hI,zC,D1]
   exact C67 _ _
  ·by_cases c2:w.getD 0 E0=C6w
   ·have c1':decide (C6w=C4w)=false:=by decide
    simp only[zA,e0,e1,e2,e3,zB,if_neg hl,if_neg c1,if_pos c2,B2p,C24,show(0:Int).toNat=0 from rfl,show(1:Int).toNat=1 from rfl,show(2:Int).toNat=2 from rfl,show(⟨#[]⟩:ByteArray)=E0 from rfl,show(⟨#[105,110,115,101,114,116]⟩:ByteArray)=C4w from rfl,show(⟨#[117,112,100,97,116,101]⟩:ByteArray)=C6w from rfl,show(⟨#[116,111]⟩:ByteArray)=wTo from rfl,zK c1,zD c2,hI,zC]
    by_cases hc:idx pTo (w.drop 2)<0
    ·have D2:=DD 2 (C4z (w.drop 2)) [] Vs zv
     have bad2:B2f (2,(w.getD 1 E0,(C4z (w.drop 2),([],B41))))≠s:=C2b hs0 (by simp[B3l,B6a])
     have q1:decide (0≤((0:Nat):Int)∧((0:Nat):Int)≤((w.length - 2:Nat):Int)∧((w.length - 2:Nat):Int)≤((w.length - 2:Nat):Int))=true:=zD ⟨by omega,by omega,by omega⟩
     have q2:decide (((w.length - 2:Nat):Int)<((w.length - 2:Nat):Int))=false:=zK (by omega)
     have t1:(w.drop (2+0)).take (w.length - 2 - 0)=w.drop 2:=List.take_of_length_le (by simp)
     simp only[if_pos hc,List.length_drop,zE,q1,q2,t1,V,zB,zA,D2,zC,zK bad2,zU];rfl
    ·obtain⟨g1,g2⟩:=C1m pTo (w.drop 2)
     obtain⟨e,he⟩:=Int.eq_ofNat_of_zero_le (show 0≤idx pTo (w.drop 2)by omega)
     have hu:=hupd e hs0 he
     rw[he]at hc g2⊢
     simp only[List.length_drop]at g2 dl
     have q0:decide ((0:Int)≤(e:Int))=true:=zD (by omega)
     have q1:decide (0≤((0:Nat):Int)∧((0:Nat):Int)≤(e:Int)∧(e:Int)≤((w.length - 2:Nat):Int))=true:=zD ⟨by omega,by omega,by omega⟩
     have q3:IntKind.wrap .i64 ((e:Int)+(1:Int))=((e+1:Nat):Int):=B26 (Nat.lt_succ_self e) (by omega)
     have q4:decide (0≤((e+1:Nat):Int)∧((e+1:Nat):Int)≤((w.length - 2:Nat):Int)∧((w.length - 2:Nat):Int)≤((w.length - 2:Nat):Int))=true:=zD ⟨by omega,by omega,by omega⟩
     have t1:(w.drop (2+0)).take (e - 0)=(w.drop 2).take e:=rfl
     have t2:(w.drop (2+(e+1))).take (w.length - 2 - (e+1))=(w.drop 2).drop (e+1):=by
      rw[List.take_of_length_le (by simp;omega),List.drop_drop]
     have V1:=h3 _ (d2.take e)
     have V2:=h3 _ (d2.drop (e+1))
     have D2:=DD 2 _ _ (C8e (d2.take e)) (C8e (d2.drop (e+1)))
     have q5:decide ((e:Int)<((w.length - 2:Nat):Int))=true:=zD (by omega)
     simp only[q1,q3,q4,q5,zB,if_neg hc,t1,t2,V1,V2,D2,zC,zE]
     exact C67 _ _
   ·by_cases c3:w.getD 0 E0=C9d
    ·have D3:=DD 3 _ [] Vs zv
     simp only[zA,e0,e1,e2,e3,zB,if_neg hl,if_neg c1,if_neg c2,if_pos c3,B2p,C24,show(0:Int).toNat=0 from rfl,show(1:Int).toNat=1 from rfl,show(2:Int).toNat=2 from rfl,show(⟨#[]⟩:ByteArray)=E0 from rfl,show(⟨#[105,110,115,101,114,116]⟩:ByteArray)=C4w from rfl,show(⟨#[117,112,100,97,116,101]⟩:ByteArray)=C6w from rfl,show(⟨#[100,101,108,101,116,101]⟩:ByteArray)=C9d from rfl,zK c1,zK c2,zD c3,V,hI,zC,D3]
     exact C67 _ _
    ·by_cases c4:w.getD 0 E0=D20
     ·have D4:=DD 4 [] [] zv zv
      simp only[zA,e0,e1,e2,e3,zB,if_neg hl,if_neg c1,if_neg c2,if_neg c3,if_pos c4,B2p,C24,show(0:Int).toNat=0 from rfl,show(1:Int).toNat=1 from rfl,show(2:Int).toNat=2 from rfl,show(⟨#[]⟩:ByteArray)=E0 from rfl,show(⟨#[105,110,115,101,114,116]⟩:ByteArray)=C4w from rfl,show(⟨#[117,112,100,97,116,101]⟩:ByteArray)=C6w from rfl,show(⟨#[100,101,108,101,116,101]⟩:ByteArray)=C9d from rfl,show(⟨#[99,108,101,97,114]⟩:ByteArray)=D20 from rfl,zK c1,zK c2,zK c3,zD c4,hI,zC,D4]
      exact C67 _ _
     ·rw[if_neg hl,if_neg c1,if_neg c2,if_neg c3,if_neg c4]
      have D5:=fun(d:B3a) (hd:B7v 1048576 d)=>hD (5,(w.getD 1 E0,([],([],d)))) ⟨hw.get 1,zv,zv,hd⟩
      have hsm:=E1w hs
      rcases hddl with⟨d,h,ht,h1',_⟩|h
      ·rw[h]at hsm⊢
       have D5:=D5 d hsm
       dsimp only at D5
       have hok:B39 d=true:=by
        cases hc:B39 d with
        |true=>rfl
        |false=>exact absurd ht (B7a hs0 hc)
       have hx:B2f (5,(w.getD 1 E0,([],([],d))))=s:=by
        have h5:B3l (5,(w.getD 1 E0,([],([],d))))=true:=by simp[B3l,hok,h1']
        unfold B2f
        rw[if_pos h5]
        exact ht
       simp only[zA,e0,e1,e2,e3,zB,B2p,C24,show(0:Int).toNat=0 from rfl,show(1:Int).toNat=1 from rfl,show(2:Int).toNat=2 from rfl,show(⟨#[]⟩:ByteArray)=E0 from rfl,show(⟨#[105,110,115,101,114,116]⟩:ByteArray)=C4w from rfl,show(⟨#[117,112,100,97,116,101]⟩:ByteArray)=C6w from rfl,show(⟨#[100,101,108,101,116,101]⟩:ByteArray)=C9d from rfl,show(⟨#[99,108,101,97,114]⟩:ByteArray)=D20 from rfl,zK c1,zK c2,zK c3,zK c4,hI,zC,D5]
       simp only[hx,zI,zT,zA,if_true]
       rw[←h1']
      ·rw[h]
       have D5:=D5 B41 C0v
       dsimp only at D5
       have bad5:B2f (5,(w.getD 1 E0,([],([],B41))))≠s:=C2b hs0 (by
        have:B39 B41=false:=by simp[B39,B41]
        simp[B3l,this])
       simp only[zA,e0,e1,e2,e3,zB,B2p,C24,show(0:Int).toNat=0 from rfl,show(1:Int).toNat=1 from rfl,show(2:Int).toNat=2 from rfl,show(⟨#[]⟩:ByteArray)=E0 from rfl,show(⟨#[105,110,115,101,114,116]⟩:ByteArray)=C4w from rfl,show(⟨#[117,112,100,97,116,101]⟩:ByteArray)=C6w from rfl,show(⟨#[100,101,108,101,116,101]⟩:ByteArray)=C9d from rfl,show(⟨#[99,108,101,97,114]⟩:ByteArray)=D20 from rfl,zK c1,zK c2,zK c3,zK c4,hI,zC,D5]
       simp only[zK bad5,zU,zB];rfl

theorem E46 {x:B3t}{s:ByteArray}(h:B8y 1048576 x):B8y 1048576 (C94 x s).1:=by
 unfold C94
 split
 ·exact h
 ·exact⟨by decide,⟨by simp[C2f],by simp[C2f]⟩,⟨by simp[C2f],by simp[C2f]⟩,C0v⟩
theorem E16:B8y 1048576 C2f:=⟨by decide,⟨by simp[C2f],by simp[C2f]⟩,⟨by simp[C2f],by simp[C2f]⟩,C0v⟩
theorem C41 {s:ByteArray}(hs:s.size≤1048576):B8y 1048576 (B38 s).1:=by
 have hw:=B70 32 hs
 have hd:=E1w hs
 unfold B38
 generalize B2v s 32=w at hw⊢
 have zv:B50 1048576 []:=⟨by simp,by simp⟩
 have d2:=hw.drop 2
 split
 ·exact E16
 ·split
  ·exact E46 ⟨hw.get 1,zv,C8e d2,C0v⟩
  ·split
   ·split
    ·exact E16
    ·exact E46 ⟨hw.get 1,C8e (d2.take _),C8e (d2.drop _),C0v⟩
   ·split
    ·exact E46 ⟨hw.get 1,C8e d2,zv,C0v⟩
    ·split
     ·exact E46 ⟨hw.get 1,zv,zv,C0v⟩
     ·split
      ·exact⟨hd.1,zv,zv,hd⟩
      ·exact E16
def has (l:List Int)(x:Int):Bool:=l.any fun y=>decide (y=x)
def B9e {α S:Type}(f:Nat→α→S→S):Nat→List α→S→S
 |_,[],s=>s
 |k,x::t,s=>B9e f (k+1) t (f k x s)
theorem C0b {α S T:Type}(l:List α)(f:Nat→α→S→S)(L:Nat→Nat→S→T)(R:S→T)(Inv:Nat→S→Prop)(hinv:∀k (h:k<l.length) s,Inv k s→Inv (k+1) (f k l[k] s))
  (hexit:∀j s,Inv l.length s→L (j+1) l.length s=R s) (hstep:∀j k s (h:k<l.length),Inv k s→L (j+1) k s=L j (k+1) (f k l[k] s)):
  ∀(t:List α) (j k:Nat) (s:S),l.drop k=t→k≤l.length→t.length<j→Inv k s→L j k s=R (B9e f k t s)
 |[],j+1,k,s,hd,hk,_,hs=>by
  have:k=l.length:=by
   rcases zE1 k l.length with h'|h'
   ·rw[zC1 h']at hd;cases hd
   ·omega
  subst this;rw[hexit _ _ hs];rfl
 |x::t,j+1,k,s,hd,hk,hj,hs=>by
  obtain⟨h2,h3,h4⟩:=B32 hd x
  have hx:l[k]=x:=by simpa[List.getD,h2]using h3
  rw[hstep j k s h2 hs,C0b l f L R Inv hinv hexit hstep t j (k+1) _ h4 (by omega) (by simp at hj;omega) (hinv k h2 s hs)]
  simp only[B9e,hx]
theorem D6q {α:Type}(i:Nat):∀(t:List α) (k:Nat) (acc:List α),k≤i→B9e (fun k x (s:List α)=>if k=i then s else s++[x]) k t acc=acc++(t.take (i - k)++t.drop (i - k+1))
 |[],k,acc,_=>by simp[B9e]
 |x::t,k,acc,h=>by
  by_cases e:k=i
  ·subst e
   simp only[B9e,if_true,Nat.sub_self,List.take_zero,List.nil_append,List.drop_succ_cons,List.drop_zero]
   have:∀(t:List α) (q:Nat) (acc:List α),k<q→B9e (fun j x (s:List α)=>if j=k then s else s++[x]) q t acc=acc++t:=by
    intro t
    induction t with
    |nil=>intro q acc _;simp[B9e]
    |cons y t ih=>intro q acc hq;simp only[B9e,if_neg (show¬q=k by omega)];rw[ih _ _ (by omega)];simp
   exact this t _ acc (by omega)
  ·simp only[B9e,if_neg e]
   rw[D6q i t (k+1) _ (by omega)]
   obtain⟨d,hd⟩:∃d,i - k=d+1:=⟨i - k - 1,by omega⟩
   rw[hd,show i - (k+1)=d by omega]
   simp
theorem F56 {α:Type}(i:Nat):∀(k:Nat) (x:α) (s:List α),(if k=i then s else s++[x]).length≤s.length+1:=by
 intro k x s;split<;>simp
def B2t {α:Type}(l:List α)(i:Nat):List α:=l.take i++l.drop (i+1)
theorem C3v {α:Type}{l:List α}{i:Nat}{x:α}(h:x∈B2t l i):x∈l:=by
 rcases zY.mp h with h|h
 ·exact List.mem_of_mem_take h
 ·exact List.mem_of_mem_drop h
theorem C3u {α:Type}(l:List α)(i:Nat):(B2t l i).length≤l.length:=by simp[B2t];omega
theorem C8b:EV fun n=>∀(l:B2q) (i:Nat),B3x 1048576 l→C0x n l (i:Int)=some (B2t l i):=(C8a.and (EV.gt 1048577)).up fun n ⟨h,hn⟩ l i hs=>by
 have hl:=hs.1
 simp only[C0x]
 refine(C0b l (fun k x (s:B2q)=>if k=i then s else s++[x]) (fun j k acc=>B59 n j (i:Int) l (l.length:Int) (k:Int) acc) some (fun k s=>s.length≤k) (fun k hk s h1=>?_) (fun j acc _=>?_) (fun j k acc hk ha=>?_) l n 0 [] rfl (by omega) (by omega) (Nat.le_refl 0)).trans ?_
 ·exact Nat.le_trans (F56 i k l[k] s) (by omega)
 ·simp only[B59,A7d,zP,zH,zA]
 ·have e:=h l[k] (hs.2 _ (zL hk)).1
  have r3:∀x:B2g,room (acc.length+[x].length) 24=true:=fun x=>by simp only[room,zG,zW,zX];omega
  simp only[B59,A7d,zD hk,R1 hk,zE,getD_at hk,zB,B26 hk (by omega),e,zC,r3,B4r]
  by_cases c:k=i
  ·rw[if_pos c,zD (by omega)];rfl
  ·rw[if_neg c,zK (by omega)];rfl
 ·rw[D6q i l 0 [] (Nat.zero_le _)];rfl
theorem F5p {α:Type}{l:List α}{i:Nat}(h:i<l.length):B1f l (i:Int) ((i+1:Nat):Int)=some (B2t l i):=by
 unfold B1f
 rw[zD (by omega)];rfl
def C5j (x:B25)(l:B2q)(key:B2g):B2q×(Int×Unit):=
 if B3b x l=true then(if C7l x key=true∧0≤idx (fun r=>decide (B2b x.2.1 x.2.2 r=key)) l then(B2t l (idx (fun r=>decide (B2b x.2.1 x.2.2 r=key)) l).toNat,(0,()))else([],(5,())))else([],(1,()))
theorem C86:EV fun n=>∀(x:B25) (l:B2q) (key:B2g),B2y 1048576 x→B3x 1048576 l→C6h n x.1 x.2.1 x.2.2 l key=some (C5j x l key):=(C01.and (C9a.and (D61.and C8b))).up fun n ⟨h1,h2,h3,h4⟩ x l key hs hl=>by
 simp only[C6h,h1 x l hs hl.1,h2 x l key hs hl.1,h3 x key hs,zC,C5j,E0p]
 cases hr:B3b x l
 ·simp
 simp only[zT,zA,if_true]
 cases hk:C7l x key
 ·simp
 obtain⟨b1,b2⟩:=C1m (fun r:B4x=>decide (B2b x.2.1 x.2.2 r=key)) l
 generalize idx (fun r:B4x=>decide (B2b x.2.1 x.2.2 r=key)) l=i at b1 b2
 by_cases c:i<0
 ·rw[zD c,if_neg (fun h=>absurd h.2 (by omega))];rfl
 ·obtain⟨i,rfl⟩:=Int.eq_ofNat_of_zero_le (show 0≤i by omega)
  rw[zK c,if_pos ⟨rfl,by omega⟩]
  simp only[zT,zA,h4 l i hl,zC,zE]
theorem B8f {x:B25}{l:B2q}(h:B3b x l=true):∀r∈l,r.length=x.2.1.length:=fun r hr=>B6n ((B56 h).2.2 r hr)
theorem D3m:EV fun n=>∀(x:B25) (l:B2q) (key:B2g),B2y 1048576 x→B3x 1048576 l→C3k n x.1 x.2.1 x.2.2 l key=some (C5j x l key):=(C1n.and (C97.and (D5w.and (B9o.and (EV.gt 0))))).up fun n ⟨h1,h2,h3,h4,hn⟩ x l key hs hl=>by
 obtain⟨m,rfl⟩:∃m,n=m+1:=⟨n - 1,by omega⟩
 simp only[C3k,h1 x l hs hl.1,h3 x key hs,zC,C5j]
 cases hr:B3b x l
 ·simp
 simp only[zT,zA,if_true,h2 x l key hs hl.1 (B56 hr).1 (B8f hr),zC,h4 l hl,B3o]
 cases hk:C7l x key
 ·simp
 obtain⟨b1,b2⟩:=C1m (fun r:B4x=>decide (B2b x.2.1 x.2.2 r=key)) l
 generalize idx (fun r:B4x=>decide (B2b x.2.1 x.2.2 r=key)) l=i at b1 b2
 have:=hl.1
 by_cases c:i<0
 ·rw[zD c,if_neg (fun h=>absurd h.2 (by omega))];rfl
 ·obtain⟨i,rfl⟩:=Int.eq_ofNat_of_zero_le (show 0≤i by omega)
  rw[zK c,if_pos ⟨rfl,by omega⟩]
  have hi:i<l.length:=by omega
  simp only[zT,zA,zC,zE,B26 hi (by omega),F5p hi]
theorem C0h:B3x 1048576 []:=⟨Nat.zero_le _,by simp⟩
theorem C83 {l:B2q}{i:Nat}(h:B3x 1048576 l):B3x 1048576 (B2t l i):=⟨Nat.le_trans (C3u l i) h.1,fun r hr=>h.2 r (C3v hr)⟩
theorem F3d:EV fun n=>∀(x0:B25) (x1:B2q) (x2:B2g),B2y 1048576 x0→B3x 1048576 x1→B50 1048576 x2→∃r,C6h n x0.1 x0.2.1 x0.2.2 x1 x2=some r∧C3k n x0.1 x0.2.1 x0.2.2 x1 x2=some r∧B3x 1048576 r.1:=
 (C86.and D3m).mono fun n ⟨h1,h2⟩ x l key hx hl _=>⟨_,h1 x l key hx hl,h2 x l key hx hl,by
  unfold C5j
  split
  ·split
   ·exact C83 hl
   ·exact C0h
  ·exact C0h⟩
theorem C6q:∀{x y z:List UInt8},Op.bytesLess x y=true→Op.bytesLess y z=true→Op.bytesLess x z=true
 |_,[],_,h,_=>by cases ‹List UInt8›<;>simp[Op.bytesLess]at h
 |_,_::_,[],_,h=>by simp[Op.bytesLess]at h
 |[],_::_,_::_,_,_=>by simp[Op.bytesLess]
 |a::x,b::y,c::z,h1,h2=>by
  simp only[Op.bytesLess,Bool.or_eq_true,zJ,zG,beq_iff_eq]at h1 h2⊢
  rcases h1 with h1|⟨rfl,h1⟩
  ·rcases h2 with h2|⟨rfl,_⟩
   ·exact .inl (UInt8.lt_trans h1 h2)
   ·exact .inl h1
  ·rcases h2 with h2|⟨rfl,h2⟩
   ·exact .inl h2
   ·exact .inr ⟨rfl,C6q h1 h2⟩
theorem E9n {x y z:B3u}(h1:B8r x y=true)(h2:B8r y z=true):B8r x z=true:=by
 obtain⟨a,b,s⟩:=x;obtain⟨c,d,t⟩:=y;obtain⟨e,f,u⟩:=z
 simp only[B8r,zJ]at h1 h2⊢
 refine⟨⟨h1.1.1,h2.1.2⟩,?_⟩
 have k1:=h1.2;have k2:=h2.2
 by_cases e1:a=c
 ·subst e1
  rw[if_pos rfl]at k1
  by_cases e2:a=e
  ·subst e2
   rw[if_pos rfl]at k2⊢
   by_cases e3:b=d
   ·subst e3
    rw[if_pos rfl]at k1
    by_cases e4:b=f
    ·subst e4;rw[if_pos rfl]at k2⊢;exact C6q k1 k2
    ·rw[if_neg e4]at k2⊢;exact k2
   ·rw[if_neg e3,zG]at k1
    by_cases e4:d=f
    ·subst e4;rw[if_neg e3];exact zD k1
    ·rw[if_neg e4,zG]at k2
     rw[if_neg (by omega)];exact zD (by omega)
  ·rw[if_neg e2]at k2⊢;exact k2
 ·rw[if_neg e1,zG]at k1
  by_cases e2:c=e
  ·subst e2;rw[if_neg e1];exact zD k1
  ·rw[if_neg e2,zG]at k2
   rw[if_neg (by omega)];exact zD (by omega)
def F30 (a:B2g):Prop:=∀v∈a,B46 v.1 v.2.1 v.2.2=true
theorem C8v:∀{a b:B2g},a.length=b.length→F30 a→F30 b→(B3j a b&&B3j b a)=false∧(B3j a b||B3j b a)= !decide (a=b)
 |[],[],_,_,_=>by simp[B3j]
 |[],_::_,h,_,_=>by simp at h
 |_::_,[],h,_,_=>by simp at h
 |x::s,y::t,h,ha,hb=>by
  have ih:=C8v (a:=s) (b:=t) (by simpa using h) (fun v hv=>ha v (zF _ hv)) (fun v hv=>hb v (zF _ hv))
  have hv:=F33 (ha x (zM ..)) (hb y (zM ..))
  simp only[B3j]
  by_cases e:x=y
  ·subst e;simp only[if_true,List.cons.injEq,true_and];exact ih
  ·rw[if_neg e,if_neg (fun h=>e h.symm)]
   refine⟨hv.1,?_⟩
   rw[hv.2,zK e,zK (fun h=>e (List.cons.inj h).1)]
theorem C5s:∀{a b c:B2g},a.length=b.length→b.length=c.length→F30 a→F30 b→F30 c→B3j a b=true→B3j b c=true→B3j a c=true
 |[],[],_,_,_,_,_,_,h,_=>by simp[B3j]at h
 |[],_::_,_,h,_,_,_,_,_,_=>by simp at h
 |_::_,[],_,h,_,_,_,_,_,_=>by simp at h
 |_::_,_::_,[],_,h,_,_,_,_,_=>by simp at h
 |x::s,y::t,z::u,h1,h2,ha,hb,hc,k1,k2=>by
  simp only[B3j]at k1 k2⊢
  by_cases e1:x=y
  ·subst e1
   rw[if_pos rfl]at k1
   by_cases e2:x=z
   ·subst e2
    rw[if_pos rfl]at k2⊢
    exact C5s (by simpa using h1) (by simpa using h2) (fun v hv=>ha v (zF _ hv)) (fun v hv=>hb v (zF _ hv)) (fun v hv=>hc v (zF _ hv)) k1 k2
   ·rw[if_neg e2]at k2⊢;exact k2
  ·rw[if_neg e1]at k1
   by_cases e2:y=z
   ·subst e2;rw[if_neg e1];exact k1
   ·rw[if_neg e2]at k2
    have k3:=E9n k1 k2
    by_cases e3:x=z
    ·subst e3
     have:=(F33 (ha x (zM ..)) (hb y (zM ..))).1
     rw[k1,k2]at this;cases this
    ·rw[if_neg e3];exact k3
theorem C3p {x:B25}(ht:B2d x=true){r:B4x}(hr:B4q x.2.1 r=true):F30 (B2b x.2.1 x.2.2 r):=by
 intro v hv
 simp only[B2b,List.mem_map]at hv
 obtain⟨key,hk,rfl⟩:=hv
 obtain⟨h1,h2,_⟩:=(B90 ht).1 key hk
 simp only[B4q,zJ,zG]at hr
 have hi:(B2a x.2.1 key).toNat<x.2.1.length:=by omega
 have:=(B4y _ _ _).mp hr.2 _ hi
 simp only[zS,B9j]at this
 generalize r.getD (B2a x.2.1 key).toNat C3x=v at this
 revert this
 cases B46 v.1 v.2.1 v.2.2<;>simp
theorem E7q {α T:Type}(p:α→Bool)(l:List α)(L:Nat→Nat→T)(R:Nat→T)(hexit:∀j,L (j+1) l.length=R l.length)(hstep:∀j k (h:k<l.length),L (j+1) k=if p l[k]=true then L j (k+1)else R k):
  ∀(t:List α) (j k:Nat),l.drop k=t→k≤l.length→t.length<j→L j k=R (k+(t.takeWhile p).length)
 |[],j+1,k,hd,hk,_=>by
  have:k=l.length:=by
   rcases zE1 k l.length with h'|h'
   ·rw[zC1 h']at hd;cases hd
   ·omega
  subst this;rw[hexit];rfl
 |x::t,j+1,k,hd,hk,hj=>by
  obtain⟨h2,h3,h4⟩:=B32 hd x
  have hx:l[k]=x:=by simpa[List.getD,h2]using h3
  rw[hstep j k h2,hx]
  by_cases hp:p x=true
  ·rw[if_pos hp,E7q p l L R hexit hstep t j (k+1) h4 (by omega) (by simp at hj;omega),List.takeWhile_cons_of_pos hp]
   simp only[zW];congr 1;omega
  ·rw[if_neg hp,List.takeWhile_cons_of_neg hp];rfl
theorem takeWhile_take {α:Type}(p:α→Bool):∀l:List α,l.take (l.takeWhile p).length=l.takeWhile p∧l.drop (l.takeWhile p).length=l.dropWhile p
 |[]=>by simp
 |x::t=>by
  obtain⟨h1,h2⟩:=takeWhile_take p t
  by_cases hp:p x=true
  ·simp[List.takeWhile_cons_of_pos hp,List.dropWhile_cons_of_pos hp,h1,h2]
  ·simp[List.takeWhile_cons_of_neg hp,List.dropWhile_cons_of_neg hp]
theorem F27 {α:Type}(p:α→Bool)(l:List α):(l.takeWhile p).length≤l.length:=by
 have:=congrArg List.length (takeWhile_take p l).1
 rw[List.length_take]at this;omega
def C3q (x:B25)(r y:B4x):Bool:=B3j (B2b x.2.1 x.2.2 y) (B2b x.2.1 x.2.2 r)
def B9i (x:B25)(l:B2q)(r:B4x):B2q:=l.takeWhile (C3q x r)++[r]++l.dropWhile (C3q x r)
theorem F8j {α:Type}{l:List α}{i:Nat}{r:α}(h:i≤l.length)(hl:l.length≤1048576):B1k 24 l (i:Int) [r]=some (l.take i++[r]++l.drop i):=by
 unfold B1k
 rw[zD ⟨rfl,by omega,by omega⟩]
 have:room (l.length+1) 24=true:=by simp only[room,zG];omega
 rw[this];rfl
theorem F7x {α:Type}(o:Option α):(o.bind fun r=>some r)=o:=by cases o<;>rfl
theorem D3s:EV fun n=>∀(x:B25) (l:B2q) (r:B4x),B2y 1048576 x→B3x 1048576 l→r.length≤1048576→B2d x=true→(∀y∈l,y.length=x.2.1.length)→r.length=x.2.1.length→C3o n x.1 x.2.1 x.2.2 l r=some (B9i x l r):=
 (C2m.and (D1i.and (B9o.and (C9x.and (EV.gt 1048577))))).up fun n ⟨h1,h2,h3,h4,hn⟩ x l r hs hl hr ht hy hr2=>by
 have hll:=hl.1
 obtain⟨m,rfl⟩:∃m,n=m+1:=⟨n - 1,by omega⟩
 simp only[C3o]
 refine(E7q (C3q x r) l (fun j k=>B9t (m+1) j l (k:Int) x.1 x.2.1 x.2.2 r) (fun k=>B1k 24 l (k:Int) [r]) (fun j=>?_) (fun j k hk=>?_) l (m+1) 0 rfl (by omega) (by omega)).trans ?_
 ·simp only[B9t,A7d,zP,zH,zA,h3 l hl,h4 r hr,zC,B45,F7x]
 ·have e:=h2 (B2b x.2.1 x.2.2 l[k]) (B2b x.2.1 x.2.2 r) (by rw[B5k];exact hs.2.2.1)
  simp only[B9t,A7d,zD hk,R1 hk,zE,getD_at hk,zB,B26 hk (by omega),h1 x l[k] hs ht (hy _ (zL hk)),h1 x r hs ht hr2,e,zC,h3 l hl,h4 r hr,B45,F7x,C3q]
  exact B7h _ _
 ·have:=F27 (C3q x r) l
  rw[zS,F8j this hll,(takeWhile_take _ _).1,(takeWhile_take _ _).2];rfl
def C5w (x:B25)(r:B4x)(y:B4x)(s:Bool×B2q):Bool×B2q:=if s.1=true then(true,s.2++[y])else if B3j (B2b x.2.1 x.2.2 r) (B2b x.2.1 x.2.2 y)=true then(true,s.2++[r]++[y])else(false,s.2++[y])
def D6r (r:B4x)(s:Bool×B2q):B2q:=if s.1=true then s.2 else s.2++[r]
theorem F31 (x:B25)(r:B4x):∀(t:B2q) (k:Nat) (acc:B2q),B9e (fun _=>C5w x r) k t (true,acc)=(true,acc++t)
 |[],k,acc=>by simp[B9e]
 |y::t,k,acc=>by
  simp only[B9e,C5w,if_true]
  rw[F31 x r t];simp
theorem lay_all (x:B25)(r:B4x):∀(t:B2q) (k:Nat) (acc:B2q),(∀y∈t,B3j (B2b x.2.1 x.2.2 r) (B2b x.2.1 x.2.2 y)= !C3q x r y)→D6r r (B9e (fun _=>C5w x r) k t (false,acc))=acc++B9i x t r
 |[],k,acc,_=>by simp[B9e,D6r,B9i]
 |y::t,k,acc,h=>by
  have hy:=h y (zM ..)
  simp only[B9e,C5w,Bool.false_eq_true,if_false]
  cases hp:C3q x r y
  ·rw[hp]at hy
   rw[if_pos (by simpa using hy),F31]
   simp[D6r,B9i,List.takeWhile_cons_of_neg (show¬C3q x r y=true by simp[hp]),List.dropWhile_cons_of_neg (show¬C3q x r y=true by simp[hp])]
  ·rw[hp]at hy
   rw[if_neg (by simp[hy]),lay_all x r t _ _ fun z hz=>h z (zF _ hz)]
   simp[B9i,List.takeWhile_cons_of_pos hp,List.dropWhile_cons_of_pos hp]
theorem D42:EV fun n=>∀(x:B25) (l:B2q) (r:B4x),B2y 1048576 x→B3x 1048576 l→r.length≤1048576→B2d x=true→(∀y∈l,y.length=x.2.1.length)→r.length=x.2.1.length→
  C6m n x.1 x.2.1 x.2.2 l r=some (D6r r (B9e (fun _=>C5w x r) 0 l (false,[]))):=(C1s.and (C6u.and (C8a.and (EV.gt 1048577)))).up fun n ⟨h1,h2,h3,hn⟩ x l r hs hl hr ht hy hr2=>by
 have hll:=hl.1
 simp only[C6m]
 refine C0b l (fun _=>C5w x r) (fun j k (s:Bool×B2q)=>B6d n j s.1 l (l.length:Int) (k:Int) x.1 x.2.1 x.2.2 r s.2) (fun s=>some (D6r r s)) (fun k s=>(s.1=false→s.2.length≤k)∧s.2.length≤k+1) (fun k hk s h1=>?_) (fun j s h=>?_) (fun j k s hk ha=>?_) l n 0 (false,[]) rfl (by omega) (by omega) ⟨fun _=>Nat.le_refl 0,Nat.zero_le _⟩
 ·obtain⟨b,acc⟩:=s
  obtain⟨h1,h2⟩:=h1
  cases b
  ·have:=h1 rfl
   simp only[C5w,Bool.false_eq_true,if_false]
   split
   ·refine⟨fun h=>(by cases h),?_⟩
    simp;dsimp only at this;omega
   ·refine⟨fun _=>?_,?_⟩<;>(simp;dsimp only at this;omega)
  ·simp only[C5w,if_true]
   refine⟨fun h=>(by cases h),?_⟩
   simp;dsimp only at h2;omega
 ·obtain⟨h0,h⟩:=h
  have r3:room (s.2.length+[r].length) 24=true:=by simp only[room,zG,zW,zX];omega
  simp only[B6d,A7d,zP,zH,zA,h3 r hr,zC,r3,zB,D6r]
  cases s.1<;>rfl
 ·obtain⟨_,ha⟩:=ha
  have e:=h3 l[k] (hl.2 _ (zL hk)).1
  have e2:=h2 (B2b x.2.1 x.2.2 r) (B2b x.2.1 x.2.2 l[k]) (by rw[B5k];exact hs.2.2.1)
  have r3:∀y:B2g,room (s.2.length+[y].length) 24=true:=fun y=>by simp only[room,zG,zW,zX];omega
  have r4:∀y z:B2g,room ((s.2++[y]).length+[z].length) 24=true:=fun y z=>by simp only[room,zG,List.length_append,zW,zX];omega
  simp only[B6d,A7d,zD hk,R1 hk,zE,getD_at hk,zB,B26 hk (by omega),e,h3 r hr,h1 x r hs ht hr2,h1 x l[k] hs ht (hy _ (zL hk)),e2,zC,r3,r4,C5w]
  obtain⟨b,acc⟩:=s
  cases b
  ·cases B3j (B2b x.2.1 x.2.2 r) (B2b x.2.1 x.2.2 l[k])<;>rfl
  ·rfl
theorem F2w {α:Type}(p:α→Bool):∀(l:List α) (k:Nat),idxFrom p l k= -1↔∀y∈l,p y=false
 |[],k=>by simp[idxFrom]
 |x::t,k=>by
  simp only[idxFrom,List.mem_cons,forall_eq_or_imp]
  by_cases h:p x=true
  ·rw[if_pos h]
   constructor
   ·intro e;omega
   ·intro e;rw[e.1]at h;cases h
  ·rw[if_neg h,F2w p t (k+1)]
   simp at h
   simp[h]
theorem D95 {α:Type}(p:α→Bool)(l:List α):¬0≤idx p l↔∀y∈l,p y=false:=by
 rw[←F2w p l 0]
 have:=(C1m p l).1
 unfold idx at this⊢
 omega
theorem E5u {x:B25}{l:B2q}{r:B4x}(ht:B2d x=true)(hl:∀y∈l,B4q x.2.1 y=true)(hr:B4q x.2.1 r=true)(hk:∀y∈l,B2b x.2.1 x.2.2 y≠B2b x.2.1 x.2.2 r):
  D6r r (B9e (fun _=>C5w x r) 0 l (false,[]))=B9i x l r:=by
 rw[lay_all x r l 0 [] fun y hy=>?_]
 ·rfl
 ·obtain⟨h1,h2⟩:=C8v (a:=B2b x.2.1 x.2.2 y) (b:=B2b x.2.1 x.2.2 r) (by rw[B5k,B5k]) (C3p ht (hl y hy)) (C3p ht hr)
  rw[zK (hk y hy)]at h2
  unfold C3q
  revert h1 h2
  cases B3j (B2b x.2.1 x.2.2 y) (B2b x.2.1 x.2.2 r)<;>cases B3j (B2b x.2.1 x.2.2 r) (B2b x.2.1 x.2.2 y)<;>simp
theorem E5y {x:B25}{l:B2q}{r y:B4x}(h:y∈B9i x l r):y∈l∨y=r:=by
 unfold B9i at h
 simp only[zY,zF1]at h
 rcases h with(h|h)|h
 ·exact .inl (by rw[←List.takeWhile_append_dropWhile (p:=C3q x r) (l:=l)];exact zZ _ h)
 ·exact .inr h
 ·exact .inl (by rw[←List.takeWhile_append_dropWhile (p:=C3q x r) (l:=l)];exact zA1 _ h)
theorem E5x (x:B25)(l:B2q)(r:B4x):(B9i x l r).length=l.length+1:=by
 have:=congrArg List.length (List.takeWhile_append_dropWhile (p:=C3q x r) (l:=l))
 simp only[List.length_append]at this
 simp[B9i];omega
theorem F0d {x:B25}{l:B2q}{r:B4x}(hl:B3x 1048576 l)(h60:l.length≤60)(hr:D0q 1048576 r):B3x 1048576 (B9i x l r):=
 ⟨by rw[E5x];omega,fun y hy=>by
  rcases E5y hy with hy|rfl
  ·exact hl.2 y hy
  ·exact hr⟩
def B4v (x:B25)(l:B2q)(key:B2g):Int:=idx (fun r=>decide (B2b x.2.1 x.2.2 r=key)) l
def C5k (x:B25)(l:B2q)(r:B4x):B2q×(Int×Unit):=
 if B3b x l=true then(if B4q x.2.1 r=true then(if 0≤B4v x l (B2b x.2.1 x.2.2 r)then([],(3,()))else if l.length=60 then([],(4,()))else(B9i x l r,(0,())))else([],(2,())))else([],(1,()))
theorem E48 {x:B25}{l:B2q}{key:B2g}(h:¬0≤B4v x l key):∀y∈l,B2b x.2.1 x.2.2 y≠key:=fun y hy e=>by
 have:=(D95 _ _).mp h y hy
 rw[zD e]at this;cases this
theorem C87:EV fun n=>∀(x:B25) (l:B2q) (r:B4x),B2y 1048576 x→B3x 1048576 l→r.length≤1048576→C6i n x.1 x.2.1 x.2.2 l r=some (C5k x l r):=(C01.and (C9b.and (C1s.and (C9a.and D42)))).up fun n ⟨h1,h2,h3,h4,h5⟩ x l r hs hl hrl=>by
 simp only[C6i,h1 x l hs hl.1,h2 x r hs,zC,C5k,B31]
 cases hr:B3b x l
 ·simp
 have ht:=(B56 hr).1
 simp only[zT,zA,if_true,ht,zG1]
 cases hi:B4q x.2.1 r
 ·simp
 simp only[zT,zA,if_true,h3 x r hs ht (B6n hi),h4 x l _ hs hl.1,zC,E0p,hr]
 rw[show idx (fun y=>decide (B2b x.2.1 x.2.2 y=B2b x.2.1 x.2.2 r)) l=B4v x l (B2b x.2.1 x.2.2 r)from rfl]
 by_cases c:0≤B4v x l (B2b x.2.1 x.2.2 r)
 ·rw[zD c,if_pos c];rfl
 ·rw[zK c,if_neg c]
  by_cases c2:l.length=60
  ·rw[zD (by omega),if_pos c2];rfl
  ·rw[zK (by omega),if_neg c2,h5 x l r hs hl hrl ht (B8f hr) (B6n hi),E5u ht (B56 hr).2.2 hi (E48 c)];rfl
theorem D3n:EV fun n=>∀(x:B25) (l:B2q) (r:B4x),B2y 1048576 x→B3x 1048576 l→r.length≤1048576→C3l n x.1 x.2.1 x.2.2 l r=some (C5k x l r):=(C1n.and (C98.and (C2m.and (C97.and D3s)))).up fun n ⟨h1,h2,h3,h4,h5⟩ x l r hs hl hrl=>by
 simp only[C3l,h1 x l hs hl.1,zC,C5k,B31]
 cases hr:B3b x l
 ·simp
 have ht:=(B56 hr).1
 simp only[zT,zA,if_true,h2 x r hs ht,zC]
 cases hi:B4q x.2.1 r
 ·simp
 simp only[zT,zA,if_true,h3 x r hs ht (B6n hi),h4 x l _ hs hl.1 ht (B8f hr),zC]
 rw[show idx (fun y=>decide (B2b x.2.1 x.2.2 y=B2b x.2.1 x.2.2 r)) l=B4v x l (B2b x.2.1 x.2.2 r)from rfl]
 by_cases c:0≤B4v x l (B2b x.2.1 x.2.2 r)
 ·rw[zD c,if_pos c];rfl
 ·rw[zK c,if_neg c]
  by_cases c2:l.length=60
  ·rw[zD (by omega),if_pos c2];rfl
  ·rw[zK (by omega),if_neg c2,h5 x l r hs hl hrl ht (B8f hr) (B6n hi)];rfl
theorem F3e:EV fun n=>∀(x0:B25) (x1:B2q) (x2:B4x),B2y 1048576 x0→B3x 1048576 x1→D0q 1048576 x2→∃r,C6i n x0.1 x0.2.1 x0.2.2 x1 x2=some r∧C3l n x0.1 x0.2.1 x0.2.2 x1 x2=some r∧B3x 1048576 r.1:=
 (C87.and D3n).mono fun n ⟨h1,h2⟩ x l r hx hl hr=>⟨_,h1 x l r hx hl hr.1,h2 x l r hx hl hr.1,by
  unfold C5k
  split
  ·rename_i h
   split
   ·split
    ·exact C0h
    ·split
     ·exact C0h
     ·exact F0d hl (B56 h).2.1 hr
   ·exact C0h
  ·exact C0h⟩
theorem C6g {x:B25}{l:B2q}(h:B3b x l=true):∀i j (hi:i<j) (hj:j<l.length),B3j (B2b x.2.1 x.2.2 l[i]) (B2b x.2.1 x.2.2 l[j])=true:=by
 obtain⟨ht,_,hin⟩:=B56 h
 simp only[B3b,zJ]at h
 have hstep:∀k (hk:k+1<l.length),B3j (B2b x.2.1 x.2.2 l[k]) (B2b x.2.1 x.2.2 l[k+1])=true:=fun k hk=>by
  have:=(B4y _ _ _).mp h.2 (k+1) hk
  simp only[zS,B4c,zJ,Nat.add_sub_cancel,getD_at (show k<l.length by omega)]at this
  simpa using this.2
 intro i j hi
 induction j with
 |zero=>omega
 |succ j ih=>
  intro hj
  by_cases e:i=j
  ·subst e;exact hstep i hj
  ·have k1:=ih (by omega) (by omega)
   have hv:∀q (hq:q<l.length),F30 (B2b x.2.1 x.2.2 l[q]):=fun q hq=>C3p ht (hin _ (zL hq))
   exact C5s (by rw[B5k,B5k]) (by rw[B5k,B5k]) (hv _ _) (hv _ _) (hv _ _) k1 (hstep j hj)
theorem C80 {x:B25}{l:B2q}(ht:B2d x=true)(hl:l.length≤60)(hin:∀r∈l,B4q x.2.1 r=true)(hs:∀k (hk:k+1<l.length),B3j (B2b x.2.1 x.2.2 l[k]) (B2b x.2.1 x.2.2 l[k+1])=true):B3b x l=true:=by
 simp only[B3b,ht,zD hl,zG1]
 refine(B4y _ _ _).mpr fun i hi=>?_
 simp only[zS,B4c,hin _ (zL hi),zG1,Bool.or_eq_true,zG]
 cases i with
 |zero=>exact .inl rfl
 |succ i=>
  right
  rw[Nat.add_sub_cancel,getD_at (show i<l.length by omega)]
  exact hs i hi
theorem B91 {α:Type}{l:List α}{i j:Nat}(hj:j<(B2t l i).length):∃(h:(if j<i then j else j+1)<l.length),(B2t l i)[j]=l[(if j<i then j else j+1)]:=by
 have hl:(B2t l i).length=min i l.length+(l.length - (i+1)):=by simp[B2t]
 by_cases c:j<i
 ·rw[if_pos c]
  refine⟨by omega,?_⟩
  simp only[B2t]
  rw[List.getElem_append_left (by simp;omega),List.getElem_take]
 ·rw[if_neg c]
  refine⟨by omega,?_⟩
  simp only[B2t]
  rw[List.getElem_append_right (by simp;omega),List.getElem_drop]
  congr 1;simp;omega
theorem C7b {x:B25}{l:B2q}(h:B3b x l=true)(i:Nat):B3b x (B2t l i)=true:=by
 obtain⟨ht,hlen,hin⟩:=B56 h
 refine C80 ht (Nat.le_trans (C3u l i) hlen) (fun r hr=>hin r (C3v hr)) fun k hk=>?_
 obtain⟨a1,a2⟩:=B91 (l:=l) (i:=i) (j:=k) (by omega)
 obtain⟨b1,b2⟩:=B91 (l:=l) (i:=i) (j:=k+1) hk
 rw[a2,b2]
 refine C6g h _ _ ?_ b1
 split<;>split<;>omega
theorem F6k {x:B25}{l:B2q}(h:B3b x l=true){i j:Nat}(hi:i<l.length)(hj:j<l.length)(e:B2b x.2.1 x.2.2 l[i]=B2b x.2.1 x.2.2 l[j]):i=j:=by
 have irr:∀q (hq:q<l.length),B3j (B2b x.2.1 x.2.2 l[q]) (B2b x.2.1 x.2.2 l[q])=false:=fun q hq=>by
  obtain⟨ht,_,hin⟩:=B56 h
  have:=(C8v (a:=B2b x.2.1 x.2.2 l[q]) (b:=B2b x.2.1 x.2.2 l[q]) rfl (C3p ht (hin _ (zL hq))) (C3p ht (hin _ (zL hq)))).1
  simpa using this
 rcases Nat.lt_trichotomy i j with c|c|c
 ·have:=C6g h i j c hj;rw[e,irr j hj]at this;cases this
 ·exact c
 ·have:=C6g h j i c hi;rw[e,irr j hj]at this;cases this
theorem D0k {α:Type}(p:α→Bool):∀(l:List α) (k i:Nat),idxFrom p l k=((k+i:Nat):Int)→∃h:i<l.length,p l[i]=true
 |[],k,i,h=>by simp only[idxFrom]at h;omega
 |x::t,k,i,h=>by
  simp only[idxFrom]at h
  split at h
  ·rename_i hp
   obtain rfl:i=0:=by omega
   exact⟨by simp,hp⟩
  ·rcases E0w p t (k+1)with e|e
   ·omega
   ·obtain⟨i,rfl⟩:∃i',i=i'+1:=⟨i - 1,by omega⟩
    obtain⟨h1,h2⟩:=D0k p t (k+1) i (by rw[h];congr 1;omega)
    exact⟨by simp;exact h1,by simpa using h2⟩
theorem F29 {α:Type}{l:List α}{i j:Nat}(hj:j<l.length)(h:j≠i):l[j]∈B2t l i:=by
 rcases Nat.lt_or_gt_of_ne h with c|c
 ·exact zZ _ (List.mem_iff_getElem.mpr ⟨j,by simp;omega,by rw[List.getElem_take]⟩)
 ·exact zA1 _ (List.mem_iff_getElem.mpr ⟨j - (i+1),by simp;omega,by rw[List.getElem_drop];congr 1;omega⟩)
def C5l (x:B25)(l:B2q)(key:B2g)(r:B4x):B2q×(Int×Unit):=
 if B3b x l=true then(if B4q x.2.1 r=true then(if C7l x key=true∧0≤B4v x l key then
  (if 0≤B4v x (B2t l (B4v x l key).toNat) (B2b x.2.1 x.2.2 r)then([],(3,()))else(B9i x (B2t l (B4v x l key).toNat) r,(0,())))else([],(5,())))else([],(2,())))else([],(1,()))
theorem C88:EV fun n=>∀(x:B25) (l:B2q) (key:B2g) (r:B4x),B2y 1048576 x→B3x 1048576 l→r.length≤1048576→C6j n x.1 x.2.1 x.2.2 l key r=some (C5l x l key r):=(C01.and (C9b.and (C1s.and (C9a.and (D42.and (D61.and C8b)))))).up fun n ⟨h1,h2,h3,h4,h5,h6,h7⟩ x l key r hs hl hrl=>by
 simp only[C6j,h1 x l hs hl.1,h2 x r hs,h6 x key hs,h4 x l _ hs hl.1,zC,C5l]
 cases hr:B3b x l
 ·simp
 have ht:=(B56 hr).1
 simp only[zT,zA,if_true,ht,zG1,E0p,hr]
 cases hi:B4q x.2.1 r
 ·simp
 cases hk:C7l x key
 ·simp
 simp only[zT,zA,if_true,true_and]
 rw[show idx (fun y=>decide (B2b x.2.1 x.2.2 y=key)) l=B4v x l key from rfl]
 obtain⟨b1,b2⟩: -1≤B4v x l key∧B4v x l key<(l.length:Int):=C1m _ _
 generalize B4v x l key=i at b1 b2
 by_cases c:i<0
 ·rw[zD c,if_neg (by omega)];rfl
 obtain⟨i,rfl⟩:=Int.eq_ofNat_of_zero_le (show 0≤i by omega)
 have hw:=C7b hr i
 rw[zK c,if_pos (by omega)]
 simp only[zA,h7 l i hl,zC,h3 x r hs ht (B6n hi),h4 x (B2t l i) _ hs (C83 hl).1,E0p,hw,if_true,zE]
 rw[show idx (fun y=>decide (B2b x.2.1 x.2.2 y=B2b x.2.1 x.2.2 r)) (B2t l i)=B4v x (B2t l i) (B2b x.2.1 x.2.2 r)from rfl]
 by_cases c2:0≤B4v x (B2t l i) (B2b x.2.1 x.2.2 r)
 ·rw[zD c2,if_pos c2];rfl
 ·rw[zK c2,if_neg c2,h5 x (B2t l i) r hs (C83 hl) hrl ht (B8f hw) (B6n hi),E5u ht (B56 hw).2.2 hi (E48 c2)];rfl
theorem D0l {α:Type}{p:α→Bool}{l:List α}(h:∃y∈l,p y=true):0≤idx p l:=by
 by_cases c:0≤idx p l
 ·exact c
 ·obtain⟨y,hy,hp⟩:=h
  rw[(D95 p l).mp c y hy]at hp;cases hp
theorem D3o:EV fun n=>∀(x:B25) (l:B2q) (key:B2g) (r:B4x),B2y 1048576 x→B3x 1048576 l→key.length≤1048576→r.length≤1048576→C3m n x.1 x.2.1 x.2.2 l key r=some (C5l x l key r):=(C1n.and (C98.and (C2m.and (C97.and (D3s.and (D5w.and (B9o.and (C81.and (EV.gt 0))))))))).up fun n ⟨h1,h2,h3,h4,h5,h6,h7,h8,hn⟩ x l key r hs hl hkl hrl=>by
 obtain⟨m,rfl⟩:∃m,n=m+1:=⟨n - 1,by omega⟩
 have hll:=hl.1
 simp only[C3m,h1 x l hs hl.1,h6 x key hs,zC,C5l]
 cases hr:B3b x l
 ·simp
 have ht:=(B56 hr).1
 simp only[zT,zA,if_true,h2 x r hs ht,zC,h4 x l _ hs hl.1 ht (B8f hr)]
 cases hi:B4q x.2.1 r
 ·simp
 cases hk:C7l x key
 ·simp
 simp only[zT,zA,if_true,true_and,h3 x r hs ht (B6n hi),zC,h7 l hl,h4 x l _ hs hl.1 ht (B8f hr),B3o]
 rw[show idx (fun y=>decide (B2b x.2.1 x.2.2 y=key)) l=B4v x l key from rfl]
 have hat:∀i:Nat,B4v x l key=(i:Int)→∃h:i<l.length,B2b x.2.1 x.2.2 l[i]=key:=fun i e=>by
  obtain⟨a,b⟩:=D0k (fun y=>decide (B2b x.2.1 x.2.2 y=key)) l 0 i (by rw[zS];exact e)
  exact⟨a,of_decide_eq_true b⟩
 obtain⟨b1,b2⟩: -1≤B4v x l key∧B4v x l key<(l.length:Int):=C1m _ _
 generalize B4v x l key=i at b1 b2 hat
 by_cases c:i<0
 ·rw[zD c,if_neg (by omega)];rfl
 obtain⟨i,rfl⟩:=Int.eq_ofNat_of_zero_le (show 0≤i by omega)
 obtain⟨hil,hat⟩:=hat i rfl
 have hw:=C7b hr i
 rw[zK c,if_pos (by omega)]
 have e8:B3r (m+1) (B2b x.2.1 x.2.2 r) key=some (decide (B2b x.2.1 x.2.2 r=key)):=by first|exact h8 _ _ (by rw[B5k];exact hs.2.2.1)|exact h8 _ _ (by rw[B5k];exact hs.2.2.1) hkl
 simp only[zA,e8,zC,B26 hil (by omega),F5p hil,zE,h5 x (B2t l i) r hs (C83 hl) hrl ht (B8f hw) (B6n hi)]
 rw[show idx (fun y=>decide (B2b x.2.1 x.2.2 y=B2b x.2.1 x.2.2 r)) l=B4v x l (B2b x.2.1 x.2.2 r)from rfl]
 by_cases e:B2b x.2.1 x.2.2 r=key
 ·rw[zD e]
  have hno:¬0≤B4v x (B2t l i) (B2b x.2.1 x.2.2 r):=by
   refine(D95 _ _).mpr fun y hy=>zK fun hy2=>?_
   obtain⟨j,hj,rfl⟩:=List.mem_iff_getElem.mp hy
   obtain⟨g1,g2⟩:=B91 hj
   rw[g2,e,←hat]at hy2
   have:=F6k hr g1 hil hy2
   split at this<;>omega
  rw[if_neg hno];rfl
 ·rw[zK e]
  simp only[zU,zB]
  have hiff:0≤B4v x l (B2b x.2.1 x.2.2 r)↔0≤B4v x (B2t l i) (B2b x.2.1 x.2.2 r):=by
   constructor
   ·intro h
    obtain⟨q,hq⟩:=Int.eq_ofNat_of_zero_le h
    obtain⟨a,b⟩:=D0k (fun y=>decide (B2b x.2.1 x.2.2 y=B2b x.2.1 x.2.2 r)) l 0 q (by rw[zS];exact hq)
    refine D0l ⟨l[q],F29 a ?_,b⟩
    rintro rfl
    exact e ((of_decide_eq_true b).symm.trans hat)
   ·intro h
    obtain⟨q,hq⟩:=Int.eq_ofNat_of_zero_le h
    obtain⟨a,b⟩:=D0k (fun y=>decide (B2b x.2.1 x.2.2 y=B2b x.2.1 x.2.2 r)) (B2t l i) 0 q (by rw[zS];exact hq)
    exact D0l ⟨_,C3v (zL a),b⟩
  by_cases c2:0≤B4v x l (B2b x.2.1 x.2.2 r)
  ·rw[zD c2,if_pos (hiff.mp c2)];rfl
  ·rw[zK c2,if_neg (fun h=>c2 (hiff.mpr h))];rfl
theorem F3f:EV fun n=>∀(x0:B25) (x1:B2q) (x2:B2g) (x3:B4x),B2y 1048576 x0→B3x 1048576 x1→B50 1048576 x2→D0q 1048576 x3→∃r,C6j n x0.1 x0.2.1 x0.2.2 x1 x2 x3=some r∧C3m n x0.1 x0.2.1 x0.2.2 x1 x2 x3=some r∧B3x 1048576 r.1:=
 (C88.and D3o).mono fun n ⟨h1,h2⟩ x l key r hx hl hk hr=>⟨_,h1 x l key r hx hl hr.1,h2 x l key r hx hl hk.1 hr.1,by
  unfold C5l
  split
  ·rename_i h
   split
   ·split
    ·split
     ·exact C0h
     ·exact F0d (C83 hl) (Nat.le_trans (C3u _ _) (B56 h).2.1) hr
    ·exact C0h
   ·exact C0h
  ·exact C0h⟩
def C09 (a b:ByteArray):Bool:=Op.bytesLess a.toList b.toList
theorem E14 (a:ByteArray):C09 a a=false:=by
 have:=(C5i a.toList a.toList).1
 rwa[Bool.and_self]at this
theorem F00 {a b:ByteArray}(h:C09 a b=false)(hne:a≠b):C09 b a=true:=by
 have:=(C5i a.toList b.toList).2
 have e:¬a.toList=b.toList:=fun e=>hne (by rw[E7n]at e;exact e)
 simp only[C09]at h⊢
 rw[h,Bool.false_or,zK e]at this
 exact this
theorem D3u {a b c:ByteArray}(h:C09 a b=true)(h2:C09 b c=true):C09 a c=true:=C6q h h2
theorem F32 {a b:ByteArray}(h:C09 a b=true):C09 b a=false:=by
 cases h2:C09 b a
 ·rfl
 ·have:=D3u h h2
  rw[E14]at this;cases this
def E5f (l:List ByteArray)(s:ByteArray):Bool:=l.any fun x=>decide (x=s)
theorem F2s (l:List ByteArray)(s:ByteArray):E5f l s=true↔s∈l:=by
 simp only[E5f,List.any_eq_true,zG]
 exact⟨fun⟨x,h,e⟩=>e▸h,fun h=>⟨s,h,rfl⟩⟩
def tAt (l:B2i)(s:ByteArray):Int:=idx (fun t:B25=>decide (t.1=s)) l
theorem D9j {l:B2i}{s:ByteArray}:0≤tAt l s↔∃t∈l,t.1=s:=by
 constructor
 ·intro h
  refine Classical.byContradiction fun hn=>?_
  refine(D95 (fun t:B25=>decide (t.1=s)) l).mpr (fun t ht=>?_) h
  exact zK fun e=>hn ⟨t,ht,e⟩
 ·rintro⟨t,ht,e⟩
  exact D0l ⟨t,ht,zD e⟩
theorem D6k {l:B2i}(h:B73 l=true):∀i j (hi:i<j) (hj:j<l.length),C09 l[i].1 l[j].1=true:=by
 have hstep:∀k (hk:k+1<l.length),C09 l[k].1 l[k+1].1=true:=fun k hk=>by
  simp only[B73,zJ,zG]at h
  have:=C3g h.2 hk
  simp only[B4u,zJ,Bool.or_eq_true,zG]at this
  rcases this.2 with e|e
  ·omega
  ·simp only[Nat.add_sub_cancel]at e
   rw[getD_at (show k<l.length by omega)]at e
   exact e
 intro i j hi
 induction j with
 |zero=>omega
 |succ j ih=>
  intro hj
  rcases zE1 i j with c|c
  ·exact D3u (ih c (by omega)) (hstep j hj)
  ·have:i=j:=by omega
   subst this;exact hstep _ hj
theorem F49 {l:B2i}(h:B73 l=true){k:Nat}(hk:k<l.length):tAt l l[k].1=(k:Int):=by
 have hp:0≤tAt l l[k].1:=D9j.mpr ⟨l[k],zL hk,rfl⟩
 obtain⟨i,e⟩:=Int.eq_ofNat_of_zero_le hp
 obtain⟨hi,e2⟩:=D0k (fun t:B25=>decide (t.1=l[k].1)) l 0 i (by rw[zS];exact e)
 rw[zG]at e2
 rw[e]
 rcases zE1 i k with c|c
 ·have:=D6k h i k c hk
  rw[e2,E14]at this;cases this
 ·rcases zE1 k i with c2|c2
  ·have:=D6k h k i c2 hi
   rw[e2,E14]at this;cases this
  ·have:i=k:=by omega
   rw[this]
theorem C2c (l:B2i)(s:ByteArray):tAt l s<0∨∃k:Nat,tAt l s=(k:Int)∧k<l.length:=by
 obtain⟨b1,b2⟩:=C1m (fun t:B25=>decide (t.1=s)) l
 rw[show idx (fun t:B25=>decide (t.1=s)) l=tAt l s from rfl]at b1 b2
 by_cases c:0≤tAt l s
 ·obtain⟨k,e⟩:=Int.eq_ofNat_of_zero_le c
  exact .inr ⟨k,e,by omega⟩
 ·exact .inl (by omega)
theorem C82:EV fun n=>∀(l:List ByteArray) (s:ByteArray),l.length≤1048576→B2m n l s=some (idx (fun x=>decide (s=x)) l):=(EV.gt 1048577).up fun n hn l s hl=>by
 rw[B2m]
 refine B7i (fun x=>decide (s=x)) l (fun j k=>B2e n j l s (l.length:Int) (k:Int)) (fun j=>?_) (fun j k hk=>?_) l n 0 rfl (by omega) (by omega)
 ·simp only[B2e,A7d,zP,zH,zA]
 ·simp only[B2e,A7d,zD hk,R1 hk,zE,getD_at hk,zB,B26 hk (by omega),B2p]
  exact B7h _ _
theorem F61 (l:List ByteArray)(s:ByteArray):decide ((0:Int)≤idx (fun x=>decide (s=x)) l)=E5f l s:=by
 rw[idx,F13]
 simp only[E5f]
 congr 1
 funext x
 rw[decide_eq_decide]
 exact⟨fun h=>h.symm,fun h=>h.symm⟩
theorem D1z:EV fun n=>∀(l:List ByteArray) (s:ByteArray),l.length≤1048576→B27 n l s=some (E5f l s):=C82.up fun n h l s hl=>by
 simp only[B27,h l s hl,zC,F61]
theorem E69:EV fun n=>∀(l:List ByteArray) (s:ByteArray),l.length≤1048576→C8z n l s=some (E5f l s):=(EV.gt 1048577).up fun n hn l s hl=>by
 rw[C8z]
 have key:∀(t:List ByteArray) (j k:Nat),l.drop k=t→k≤l.length→t.length<j→C03 n j s l (l.length:Int) (k:Int)=some (E5f t s):=by
  intro t
  induction t with
  |nil=>
   intro j k hdr hk hj
   obtain⟨j,rfl⟩:∃i,j=i+1:=⟨j - 1,by simp at hj;omega⟩
   have:k=l.length:=by
    rcases zE1 k l.length with h'|h'
    ·rw[zC1 h']at hdr;cases hdr
    ·omega
   subst this
   simp only[C03,A7d,zP,zH,zA];rfl
  |cons x t ih=>
   intro j k hdr hk hj
   obtain⟨j,rfl⟩:∃i,j=i+1:=⟨j - 1,by simp at hj;omega⟩
   obtain⟨h2,h3,h4⟩:=B32 hdr E0
   rw[getD_at h2]at h3
   simp only[C03,A7d,zD h2,R1 h2,zE,getD_at h2,h3,zB,B26 h2 (by omega),B2p]
   rw[ih j (k+1) h4 (by omega) (by simp at hj;omega)]
   simp only[E5f,List.any_cons]
   cases decide (x=s)<;>rfl
 exact key l n 0 rfl (by omega) (by omega)
def B5u (x:B25)(d:B3a):Int:=
 if d.1=3 then(if 0≤B2a x.2.1 (d.2.2.1.getD 0 CZ).1 then 5 else if x.2.1.length=8 then 6 else 0)else
 if d.1=4 then(if B2a x.2.1 d.2.2.2.2.1<0 then 7 else if E5f x.2.2 d.2.2.2.2.1=true then 8 else 0)else
 if d.1=5 then(if 0≤B2a x.2.1 d.2.2.2.2.2 then 5 else if B2a x.2.1 d.2.2.2.2.1<0 then 7 else 0)else 0
theorem C5h {p:Prop} [Decidable p]{α:Type}(x y:α):(bif decide p then x else y)=if p then x else y:=by by_cases h:p<;>simp[h]
theorem E1c:EV fun n=>∀(x:B25) (d:B3a),B2y 1048576 x→B39 d=true→C62 n x.1 x.2.1 x.2.2 d.1 d.2.1 d.2.2.1 d.2.2.2.1 d.2.2.2.2.1 d.2.2.2.2.2=some (B5u x d):=(C2o.and E69).up fun n ⟨h1,h2⟩ x d hs hd=>by
 have hc:=hs.2.1.1
 have hk:=hs.2.2.1
 simp only[C62,h1 _ _ _ _ hc,h2 _ _ hk,zC,B31,B5u]
 by_cases k3:d.1=3
 ·obtain⟨c,hcs,_⟩:=C2t hd k3
  simp only[k3,zI,zB,if_true,hcs,List.length_singleton,F42,Int.toNat_zero,List.getD_cons_zero,C5h]
  split
  ·rfl
  ·by_cases h8:x.2.1.length=8
   ·rw[if_pos (by omega),if_pos h8]
   ·rw[if_neg (by omega),if_neg h8]
 by_cases k4:d.1=4
 ·simp only[k4,show¬(4:Int)=3 by decide,zH,zI,zB,zA,if_true,if_false,C5h]
  split
  ·rfl
  ·cases E5f x.2.2 d.2.2.2.2.1<;>rfl
 by_cases k5:d.1=5
 ·simp only[k5,show¬(5:Int)=3 by decide,show¬(5:Int)=4 by decide,zH,zI,zB,zA,if_true,if_false,C5h]
  split
  ·rfl
  ·split<;>rfl
 ·simp only[k3,k4,k5,zH,zA,if_false]
def C2i (l:B2i)(d:B3a):Int:=
 if d.1=1 then(if 0≤tAt l d.2.1 then 2 else if l.length=6 then 3 else 0)else
 if tAt l d.2.1<0 then 4 else B5u (l.getD (tAt l d.2.1).toNat C7a) d
theorem D1l:EV fun n=>∀(l:B2i) (d:B3a),B6o 1048576 l→B39 d=true→C4c n l d.1 d.2.1 d.2.2.1 d.2.2.2.1 d.2.2.2.2.1 d.2.2.2.2.2=some (C2i l d):=(C43.and (C0y.and D1z)).up fun n ⟨h1,h2,h3⟩ l d hs hd=>by
 have e:=h1 l d.2.1 hs.1
 rw[show idx (fun t:B25=>decide (t.1=d.2.1)) l=tAt l d.2.1 from rfl]at e
 simp only[C4c,e,zC,B31,C2i]
 by_cases k1:d.1=1
 ·simp only[k1,zI,zB,if_true,C5h]
  split
  ·rfl
  ·by_cases h8:l.length=6
   ·rw[if_pos (by omega),if_pos h8]
   ·rw[if_neg (by omega),if_neg h8]
 rcases C2c l d.2.1 with c|⟨i,ei,hi⟩
 ·simp only[k1,zH,zA,if_false,zD c,zB,if_pos c]
 have z:¬((i:Int)<0):=by omega
 simp only[ei,k1,zH,zA,if_false,zK z,if_neg z,R1 hi,zB,zE,getD_at hi]
 have hx:=hs.2 _ (zL hi)
 generalize l[i]=x at hx
 have hc:=hx.2.1.1
 have hk:=hx.2.2.1
 have h2':∀s,B2z n x.1 x.2.1 x.2.2 s=some (B2a x.2.1 s):=fun s=>h2 _ _ _ _ hc
 simp only[h2',h3 _ _ hk,zC,B5u]
 by_cases k3:d.1=3
 ·obtain⟨c,hcs,_⟩:=C2t hd k3
  simp only[k3,zI,zB,if_true,hcs,List.length_singleton,F42,Int.toNat_zero,List.getD_cons_zero,C5h,show¬(3:Int)=5 by decide,show¬(3:Int)=4 by decide,if_false]
  split
  ·rfl
  ·by_cases h8:x.2.1.length=8
   ·rw[if_pos (by omega),if_pos h8]
   ·rw[if_neg (by omega),if_neg h8]
 by_cases k4:d.1=4
 ·simp only[k4,show¬(4:Int)=3 by decide,show¬(4:Int)=5 by decide,zH,zI,zB,zA,if_true,if_false,C5h]
  split
  ·rfl
  ·cases E5f x.2.2 d.2.2.2.2.1<;>rfl
 by_cases k5:d.1=5
 ·simp only[k5,show¬(5:Int)=3 by decide,show¬(5:Int)=4 by decide,zH,zI,zB,zA,if_true,if_false,C5h]
  split
  ·rfl
  ·split<;>rfl
 ·simp only[k3,k4,k5,zH,zA,if_false]
theorem D1o:EV fun n=>∀l:B2i,B6o 1048576 l→C4t n l=some l:=(D08.and (EV.gt 1048577)).up fun n ⟨h,hn⟩ l hs=>by
 have hl:=hs.1
 simp only[C4t]
 refine(C4j l id (fun j k acc=>B8h n j l (l.length:Int) (k:Int) [] acc) (fun j acc=>?_) (fun j k acc hk ha=>?_) l n 0 [] rfl (by omega) (by omega) rfl).trans (by simp)
 ·simp only[B8h,A7d,zP,zH,zA]
 ·have e:=h l[k] (hs.2 _ (zL hk))
  have r3:∀x:B25,room (acc.length+[x].length) 64=true:=fun x=>by simp only[room,zG,zW,zX];omega
  simp only[B8h,A7d,zD hk,R1 hk,zE,getD_at hk,zB,B26 hk (by omega),e,zC,r3,id]
theorem D1k:EV fun n=>∀l:B2i,B6o 1048576 l→C4a n l=some l:=(C4b.and (EV.gt 1048577)).up fun n ⟨h,hn⟩ l hs=>by
 have hl:=hs.1
 simp only[C4a]
 refine(C4j l id (fun j k acc=>B8d n j l (l.length:Int) (k:Int) [] acc) (fun j acc=>?_) (fun j k acc hk ha=>?_) l n 0 [] rfl (by omega) (by omega) rfl).trans (by simp)
 ·simp only[B8d,A7d,zP,zH,zA]
 ·have e:=h l[k] (hs.2 _ (zL hk))
  have r3:∀x:B25,room (acc.length+[x].length) 64=true:=fun x=>by simp only[room,zG,zW,zX];omega
  simp only[B8d,A7d,zD hk,R1 hk,zE,getD_at hk,zB,B26 hk (by omega),e,zC,r3,id]
def B9f (t:B25):B2i→B2i
 |[]=>[t]
 |x::l=>if C09 t.1 x.1=true then t::x::l else x::B9f t l
def E5z (t:B25):B2i→Bool→B2i→B2i
 |[],d,acc=>if d=true then acc else acc++[t]
 |x::l,d,acc=>if d=false∧C09 t.1 x.1=true then E5z t l true (acc++[t]++[x])else E5z t l d (acc++[x])
theorem F07 (t:B25):∀(l:B2i) (acc:B2i),E5z t l true acc=acc++l
 |[],acc=>by simp[E5z]
 |x::l,acc=>by
  simp only[E5z,Bool.true_eq_false,false_and,if_false]
  rw[F07 t l];simp
theorem F4m (t:B25):∀(l:B2i) (acc:B2i),E5z t l false acc=acc++B9f t l
 |[],acc=>by simp[E5z,B9f]
 |x::l,acc=>by
  simp only[E5z,true_and,B9f]
  split
  ·rw[F07];simp
  ·rw[F4m t l];simp
theorem E6a:EV fun n=>∀(l:B2i) (x:B25),l.length≤1048576→C90 n l x.1 x.2.1 x.2.2=some (B9f x l):=(EV.gt 1048577).up fun n hn l x hl=>by
 have key:∀(t:B2i) (j k:Nat) (d:Bool) (acc:B2i),l.drop k=t→k≤l.length→t.length<j→acc.length≤k+d.toNat→
   B6c n j d l (l.length:Int) (k:Int) x.1 x.2.1 x.2.2 [] acc=some (E5z x t d acc):=by
  intro t
  induction t with
  |nil=>
   intro j k d acc hdr hk hj ha
   obtain⟨j,rfl⟩:∃i,j=i+1:=⟨j - 1,by simp at hj;omega⟩
   have:k=l.length:=by
    rcases zE1 k l.length with h'|h'
    ·rw[zC1 h']at hdr;cases hdr
    ·omega
   subst this
   have hd1:d.toNat≤1:=by cases d<;>decide
   have r:room (acc.length+[x].length) 64=true:=by simp only[room,zG,zW,zX];omega
   simp only[B6c,A7d,zP,zH,zA,E5z]
   rw[show [(x.1,(x.2.1,x.2.2))]=[x]from rfl,r]
   cases d<;>rfl
  |cons y t ih=>
   intro j k d acc hdr hk hj ha
   obtain⟨j,rfl⟩:∃i,j=i+1:=⟨j - 1,by simp at hj;omega⟩
   obtain⟨h2,h3,h4⟩:=B32 hdr C7a
   rw[getD_at h2]at h3
   have hd1:d.toNat≤1:=by cases d<;>decide
   have hj':t.length<j:=by simp at hj;omega
   have r1:room (acc.length+[x].length) 64=true:=by simp only[room,zG,zW,zX];omega
   have r2:room ((acc++[x]).length+[y].length) 64=true:=by simp only[room,zG,List.length_append,zW,zX];omega
   have r3:room (acc.length+[y].length) 64=true:=by simp only[room,zG,zW,zX];omega
   simp only[B6c,A7d,zD h2,R1 h2,zE,getD_at h2,h3,zB,B26 h2 (by omega),E5z]
   rw[show [(x.1,(x.2.1,x.2.2))]=[x]from rfl,show [(y.1,(y.2.1,y.2.2))]=[y]from rfl,r1,r2,r3]
   simp only[zB]
   have i1:=ih j (k+1) d (acc++[y]) h4 (by omega) hj'
   cases d
   ·simp only[zU,zB,true_and]
    cases c:C09 x.1 y.1
    ·rw[show Op.bytesLess x.1.toList y.1.toList=false from c,zA,if_neg (by simp)]
     exact i1 (by simp at ha⊢;omega)
    ·rw[show Op.bytesLess x.1.toList y.1.toList=true from c,zB,if_pos rfl]
     exact ih j (k+1) true (acc++[x]++[y]) h4 (by omega) hj' (by simp at ha⊢;omega)
   ·simp only[zT,zA,Bool.true_eq_false,false_and,if_false]
    exact i1 (by simp at ha⊢;omega)
 simp only[C90]
 refine(key l n 0 false [] rfl (by omega) (by omega) (by simp)).trans ?_
 rw[F4m];rfl
def C0r (d:B3a)(c:B4j):B4j:=if d.1=5∧c.1=d.2.2.2.2.1 then(d.2.2.2.2.2,c.2)else c
def B5o (d:B3a)(k:ByteArray):ByteArray:=if d.1=5∧k=d.2.2.2.2.1 then d.2.2.2.2.2 else k
def E53 (d:B3a)(c:B4j):Bool:=decide (d.1=4)&&decide (c.1=d.2.2.2.2.1)
def B3n (x:B25)(d:B3a):B25:=(x.1,((x.2.1.filter fun c=> !E53 d c).map (C0r d)++(if d.1=3 then [d.2.2.1.getD 0 CZ]else []),x.2.2.map (B5o d)))
theorem C2u {α β:Type}(p:α→Bool)(f:α→β):∀(l:List α) (k:Nat) (acc:List β),B9e (fun _ x s=>if p x=true then s else s++[f x]) k l acc=acc++(l.filter fun x=> !p x).map f
 |[],k,acc=>by simp[B9e]
 |x::l,k,acc=>by
  simp only[B9e]
  rw[C2u p f l]
  by_cases c:p x=true
  ·simp[c]
  ·simp[c]
theorem D9f:EV fun n=>∀(x:B25) (d:B3a),B2y 1048576 x→B39 d=true→C4s n x.1 x.2.1 x.2.2 d.1 d.2.1 d.2.2.1 d.2.2.2.1 d.2.2.2.2.1 d.2.2.2.2.2=some (B3n x d):=(EV.gt 1048577).up fun n hn x d hs hd=>by
 have hcl:=hs.2.1.1
 have hkl:=hs.2.2.1
 have hL2:∀(cs:B2x),cs.length≤1048576→∀(t:List ByteArray) (j k:Nat) (s:List ByteArray),s.drop k=t→k≤s.length→t.length<j→s.length≤1048576→
   B51 n j (s.length:Int) (k:Int) d.1 d.2.1 d.2.2.1 d.2.2.2.1 d.2.2.2.2.1 d.2.2.2.2.2 E0 [] [] x.1 cs s=some (x.1,(cs++(if d.1=3 then [d.2.2.1.getD 0 CZ]else []),s.take k++t.map (B5o d))):=by
  intro cs hcs t
  induction t with
  |nil=>
   intro j k s hdr hk hj hsl
   obtain⟨j,rfl⟩:∃i,j=i+1:=⟨j - 1,by simp at hj;omega⟩
   have:k=s.length:=by
    rcases zE1 k s.length with h'|h'
    ·rw[zC1 h']at hdr;cases hdr
    ·omega
   subst this
   simp only[B51,A7d,zP,zH,zA,B31,List.take_length,List.map_nil,zH1]
   by_cases k3:d.1=3
   ·obtain⟨c,hc,_⟩:=C2t hd k3
    simp only[k3,hc,zI,zB,if_true,List.length_singleton,F42,Int.toNat_zero,List.getD_cons_zero]
    have r':room (cs.length+1) 64=true:=by simp only[room,zG];omega
    rw[show [(c.1,(c.2.1,(c.2.2.1,(c.2.2.2.1,(c.2.2.2.2.1,(c.2.2.2.2.2.1,c.2.2.2.2.2.2))))))]=[c]from rfl,r'];rfl
   ·simp only[k3,zH,zA,if_false,zH1]
  |cons y t ih=>
   intro j k s hdr hk hj hsl
   obtain⟨j,rfl⟩:∃i,j=i+1:=⟨j - 1,by simp at hj;omega⟩
   obtain⟨h2,h3,h4⟩:=B32 hdr E0
   rw[getD_at h2]at h3
   have hj':t.length<j:=by simp at hj;omega
   simp only[B51,A7d,zD h2,R1 h2,zE,getD_at h2,h3,zB,B26 h2 (by omega),B31,B2p]
   have hset:∀z:ByteArray,(s.set k z).take (k+1)=s.take k++[z]:=fun z=>by
    rw[List.take_add_one,List.take_set_of_le (by omega),List.getElem?_set_self h2];rfl
   have htk:s.take (k+1)=s.take k++[y]:=by rw[List.take_add_one,List.getElem?_eq_getElem h2,h3];rfl
   by_cases k5:d.1=5
   ·by_cases e:y=d.2.2.2.2.1
    ·have:=ih j (k+1) (s.set k d.2.2.2.2.2) (by rw[List.drop_set_of_lt (by omega)];exact h4) (by simp;omega) hj' (by simpa using hsl)
     rw[List.length_set,hset]at this
     simp only[k5,e,zI,zB,List.map_cons,B5o,and_self,if_true]at this⊢
     rw[this];simp[B5o]
    ·have:=ih j (k+1) s h4 (by omega) hj' hsl
     rw[htk]at this
     simp only[k5,e,zI,zH,zB,zA,List.map_cons,B5o,and_false,if_false]at this⊢
     rw[this];simp[B5o]
   ·have:=ih j (k+1) s h4 (by omega) hj' hsl
    rw[htk]at this
    simp only[k5,zH,zA,List.map_cons,B5o,false_and,if_false]at this⊢
    rw[this];simp[B5o]
 have r1:room (([]:List ByteArray).length+x.2.2.length) 16=true:=by simp only[room,zG,zX];omega
 simp only[C4s,r1,zB,List.nil_append]
 refine(C0b x.2.1 (fun _ c s=>if E53 d c=true then s else s++[C0r d c]) (fun j k acc=>B3s n j x.2.1 (x.2.1.length:Int) (k:Int) d.1 d.2.1 d.2.2.1 d.2.2.2.1 d.2.2.2.2.1 d.2.2.2.2.2 E0 [] [] x.1 acc x.2.2)
  (fun acc=>some (x.1,(acc++(if d.1=3 then [d.2.2.1.getD 0 CZ]else []),x.2.2.map (B5o d)))) (fun k s=>s.length≤k) (fun k hk s h=>?_) (fun j acc hacc=>?_) (fun j k acc hk hacc=>?_) x.2.1 n 0 [] rfl (by omega) (by omega) (Nat.le_refl 0)).trans ?_
 ·split
  ·omega
  ·rw[List.length_append];simp only[zW,zX];omega
 ·simp only[B3s,A7d,zP,zH,zA]
  have:=hL2 acc (by omega) x.2.2 n 0 x.2.2 rfl (by omega) (by omega) hkl
  rw[List.take_zero,List.nil_append]at this
  exact this
 ·have r:∀c:B4j,room (acc.length+[c].length) 64=true:=fun c=>by simp only[room,zG,zW,zX];omega
  simp only[B3s,A7d,zD hk,R1 hk,zE,getD_at hk,zB,B26 hk (by omega),B31,B2p,E53,C0r]
  generalize x.2.1[k]=c
  simp only[r,zB]
  by_cases k4:d.1=4
  ·by_cases e:c.1=d.2.2.2.2.1
   ·simp only[k4,e,zI,zB,Bool.and_self,if_true]
   ·simp only[k4,e,zI,zH,zB,zA,Bool.and_false,Bool.false_eq_true,if_false,show¬(4:Int)=5 by decide,false_and]
  ·by_cases k5:d.1=5
   ·by_cases e:c.1=d.2.2.2.2.1
    ·simp only[k5,e,show¬(5:Int)=4 by decide,zH,zI,zB,zA,Bool.false_and,Bool.false_eq_true,if_false,and_self,if_true]
    ·simp only[k5,e,show¬(5:Int)=4 by decide,zH,zI,zB,zA,Bool.false_and,Bool.false_eq_true,if_false,and_false]
   ·simp only[k4,k5,zH,zA,Bool.false_and,Bool.false_eq_true,if_false,false_and]
 ·rw[C2u];rfl
def B81 (l:B2i)(d:B3a):B2i:=
 if d.1=1 then B9f (d.2.1,(d.2.2.1,d.2.2.2.1)) l else
 if d.1=2 then B2t l (tAt l d.2.1).toNat else l.set (tAt l d.2.1).toNat (B3n (l.getD (tAt l d.2.1).toNat C7a) d)
def B4f (l:B2i)(d:B3a):B2i×(Int×Unit):=
 if B73 l=true∧B39 d=true then(if C2i l d=0 then(B81 l d,(0,()))else([],(C2i l d,())))else([],(1,()))
theorem D06:EV fun n=>∀(l:B2i) (d:B3a),B6o 1048576 l→B7v 1048576 d→C2p n l d.1 d.2.1 d.2.2.1 d.2.2.2.1 d.2.2.2.2.1 d.2.2.2.2.2=some (B4f l d):=(D5z.and (C60.and (C9c.and (D1o.and (D08.and (E6a.and (E1c.and D9f))))))).up fun n ⟨h1,h2,h3,h4,h5,h6,h7,h8⟩ l d hl hd=>by
 have e3:=h3 l d.2.1 hl.1
 rw[show idx (fun t:B25=>decide (t.1=d.2.1)) l=tAt l d.2.1 from rfl]at e3
 simp only[C2p,h1 l hl,h2 d hd,e3,h4 l hl,zC,B4f,B31,B4r]
 cases hc:B73 l
 ·simp
 cases hk:B39 d
 ·simp
 have hlen:=(C3i hc).1
 simp only[zT,zA,and_self,if_true]
 have hbig:=hl.1
 by_cases k1:d.1=1
 ·have e5:=h5 (d.2.1,(d.2.2.1,d.2.2.2.1)) ⟨hd.1,hd.2.1,hd.2.2.1⟩
  have e6:=h6 l (d.2.1,(d.2.2.1,d.2.2.2.1)) hbig
  dsimp only at e5 e6
  simp only[k1,zI,zB,e5,e6,zC,C2i,B81,if_true,C5h]
  by_cases c:0≤tAt l d.2.1
  ·simp only[if_pos c];rfl
  ·simp only[if_neg c]
   by_cases h6':l.length=6
   ·rw[if_pos (by omega),if_pos h6'];rfl
   ·rw[if_neg (by omega),if_neg h6'];rfl
 simp only[k1,zH,zA,C2i,B81,if_false]
 rcases C2c l d.2.1 with c|⟨i,ei,hi⟩
 ·simp only[zD c,zB,if_pos c];rfl
 have z:¬((i:Int)<0):=by omega
 have e7:=h7 l[i] d (hl.2 _ (zL hi)) hk
 have e8:=h8 l[i] d (hl.2 _ (zL hi)) hk
 simp only[ei,zK z,zA,R1 hi,zB,zE,getD_at hi,e7,e8,zC,if_neg z]
 by_cases cf:B5u l[i] d=0
 ·simp only[cf,zI,zT,zA,if_true]
  by_cases k2:d.1=2
  ·have w:IntKind.wrap .i64 ((i:Int)+1)=((i+1:Nat):Int):=B26 hi (by omega)
   have q1:decide (0≤((0:Nat):Int)∧((0:Nat):Int)≤(i:Int)∧(i:Int)≤(l.length:Int))=true:=zD ⟨by omega,by omega,by omega⟩
   have q2:decide (0≤((i+1:Nat):Int)∧((i+1:Nat):Int)≤((l.length:Nat):Int)∧((l.length:Nat):Int)≤(l.length:Int))=true:=zD ⟨by omega,by omega,by omega⟩
   have r1:room (([]:B2i).length+((l.drop 0).take (i - 0)).length) 64=true:=by simp only[room,zG,zX,List.length_take];omega
   have t1:(l.drop (i+1)).take (l.length - (i+1))=l.drop (i+1):=List.take_of_length_le (by simp)
   have r2:room (([]++(l.drop 0).take (i - 0)).length+(l.drop (i+1)).length) 64=true:=by simp only[room,zG,List.nil_append,List.length_take,List.length_drop];omega
   simp only[k2,zI,zB,if_true,w,zE,Int.toNat_zero,q1,r1,q2,t1,r2]
   rw[List.nil_append,List.drop_zero,Nat.sub_zero];rfl
  ·simp only[k2,zH,zA,if_false]
 ·simp only[cf,zH,zU,zB,if_false]
theorem F6j {α:Type}{eb:Nat}{l:List α}{i:Nat}{r:α}(h:i≤l.length)(hr:room (l.length+1) eb=true):B1k eb l (i:Int) [r]=some (l.take i++[r]++l.drop i):=by
 unfold B1k
 rw[zD ⟨rfl,by omega,by omega⟩,hr];rfl
theorem F4p {α:Type}{l:List α}{i:Nat}(hi:i<l.length)(f:α→α)(h2:∀j (hj:j<l.length),j≠i→f l[j]=l[j]):l.set i (f l[i])=l.map f:=by
 refine List.ext_getElem (by simp) fun j h1 h3=>?_
 rw[List.getElem_set,List.getElem_map]
 split
 ·rename_i e;subst e;rfl
 ·rename_i e;exact(h2 j (by simpa using h1) (fun h=>e h.symm)).symm
theorem D0j {x:B25}(h:B2d x=true):∀i j (hi:i<x.2.1.length) (hj:j<x.2.1.length),x.2.1[i].1=x.2.1[j].1→i=j:=by
 intro i j hi hj e
 simp only[B2d,zJ]at h
 have a1:=C3g h.1.2 hi
 have a2:=C3g h.1.2 hj
 simp only[zJ,zG]at a1 a2
 have:=a1.2
 rw[e,a2.2]at this
 omega
theorem E63 {cs:B2x}:∀{ks:B43} {last:Int},(runs (B4s cs) ks last).isSome=true→∀k∈ks,last<B2a cs k
 |[],_,_,k,hk=>by cases hk
 |y::ks,last,h,k,hk=>by
  simp only[runs]at h
  unfold B4s at h
  split at h
  ·rename_i c
   rcases List.mem_cons.mp hk with e|e
   ·rw[e];exact c.1
   ·have:=E63 (last:=B2a cs y) h k e
    exact Int.lt_trans c.1 this
  ·cases h
theorem E65 {cs:B2x}:∀{ks:B43} {last:Int},(runs (B4s cs) ks last).isSome=true→ks.Nodup
 |[],_,_=>List.Pairwise.nil
 |y::ks,last,h=>by
  simp only[runs]at h
  unfold B4s at h
  split at h
  ·rename_i c
   refine List.pairwise_cons.mpr ⟨fun k hk e=>?_,E65 (last:=B2a cs y) h⟩
   have:=E63 (last:=B2a cs y) h k hk
   rw[e]at this;exact Int.lt_irrefl _ this
  ·cases h
theorem F43 {x:B25}(h:B2d x=true):x.2.2.Nodup:=by
 simp only[B2d,zJ]at h
 exact E65 h.2
theorem C06 (cs:B2x)(s:ByteArray):B2a cs s<0∨∃k:Nat,B2a cs s=(k:Int)∧∃hk:k<cs.length,cs[k].1=s:=by
 by_cases c:0≤B2a cs s
 ·obtain⟨k,e⟩:=Int.eq_ofNat_of_zero_le c
  obtain⟨hk,e2⟩:=D0k (fun c:B4j=>decide (c.1=s)) cs 0 k (by rw[zS];exact e)
  exact .inr ⟨k,e,hk,by simpa using e2⟩
 ·exact .inl (by omega)
theorem E9t:EV fun n=>∀(c:B4j) (d:B3a),C0s n c.1 c.2.1 c.2.2.1 c.2.2.2.1 c.2.2.2.2.1 c.2.2.2.2.2.1 c.2.2.2.2.2.2 d=some (decide (c.1=d.2.2.2.2.1)):=EV.true.up fun n _ c d=>by
 simp only[C0s,B2p]
theorem F4z:EV fun n=>∀(l:B2x) (d:B3a),l.length≤1048576→B36 n l d=some (B2a l d.2.2.2.2.1):=(E9t.and (EV.gt 1048577)).up fun n ⟨h1,hn⟩ l d hl=>by
 rw[B36]
 refine B7i (fun c:B4j=>decide (c.1=d.2.2.2.2.1)) l (fun j k=>B2k n j l d (l.length:Int) (k:Int)) (fun j=>?_) (fun j k hk=>?_) l n 0 rfl (by omega) (by omega)
 ·simp only[B2k,A7d,zP,zH,zA]
 ·simp only[B2k,A7d,zD hk,R1 hk,zE,getD_at hk,zB,B26 hk (by omega),h1,zC]
  exact B7h _ _
def B8t (l:B2x)(s:ByteArray):B2x:=l.filter fun c=> !decide (c.1=s)
theorem C8o (s:ByteArray):∀(l:B2x) (k:Nat),(idxFrom (fun c:B4j=>decide (c.1=s)) l k= -1∧B8t l s=l)∨∃m:Nat,m<l.length∧idxFrom (fun c:B4j=>decide (c.1=s)) l k=((k+m:Nat):Int)∧B8t l s=l.take m++B8t (l.drop (m+1)) s
 |[],k=> .inl ⟨rfl,rfl⟩
 |c::l,k=>by
  by_cases e:c.1=s
  ·refine .inr ⟨0,by simp,by simp[idxFrom,e],by simp[B8t,e]⟩
  ·rcases C8o s l (k+1)with⟨h1,h2⟩|⟨m,h1,h2,h3⟩
   ·refine .inl ⟨by simp[idxFrom,e,h1],?_⟩
    simp only[B8t,List.filter_cons,e,zH,zU,if_true]at h2⊢
    rw[h2]
   ·refine .inr ⟨m+1,by simp;omega,?_,?_⟩
    ·simp only[idxFrom,e,zH,zA]at h2⊢
     first
      |(rw[if_neg (by simp),h2];congr 1;omega)
      |(rw[h2];congr 1;omega)
    ·simp only[B8t,List.filter_cons,e,zH,zU,if_true,List.take_succ_cons,List.drop_succ_cons,List.cons_append]at h3⊢
     rw[h3]
theorem F4y:EV fun n=>∀(l:B2x) (d:B3a),l.length≤1048576→B33 n l d=some (B8t l d.2.2.2.2.1):=(E9t.and (F4z.and (EV.gt 1048578))).up fun n ⟨h1,h2,hn⟩ l d hl=>by
 have loop:∀(t:B2x) (j k i:Nat) (cur:B2x),cur.drop k=t→k≤cur.length→i≤k→t.length<j→cur.length≤1048576→
   B2c n j d (i:Int) (k:Int) cur=some (cur.take i++B8t t d.2.2.2.2.1):=by
  intro t
  induction t with
  |nil=>
   intro j k i cur hd hk hi hj hc
   obtain⟨j,rfl⟩:∃j',j=j'+1:=⟨j - 1,by omega⟩
   have:k=cur.length:=by have:=congrArg List.length hd;simp at this;omega
   subst this
   have q1:decide (0≤(i:Int)∧(i:Int)≤((cur.length:Nat):Int)∧((cur.length:Nat):Int)≤(cur.length:Int))=true:=zD ⟨by omega,by omega,by omega⟩
   have q2:∀z:B4j,decide (0≤((0:Nat):Int)∧((0:Nat):Int)≤(i:Int)∧(i:Int)≤((cur.take i++List.replicate (cur.length - i) z++cur.drop (i+(cur.length - i))).length:Int))=true:=fun z=>zD ⟨by omega,by omega,by simp;omega⟩
   simp only[B2c,A7d,zP,zH,zA,q1,zB,zE,q2]
   have:(cur.take i).length=i:=by simp;omega
   simp only[B8t,List.filter_nil,zH1,Nat.sub_zero]
   rw[List.append_assoc,List.take_append_of_le_length (by omega),List.take_of_length_le (by omega)]
  |cons y t ih=>
   intro j k i cur hd hk hi hj hc
   obtain⟨j,rfl⟩:∃j',j=j'+1:=⟨j - 1,by omega⟩
   obtain⟨g2,g3,g4⟩:=B32 hd y
   have hx:cur[k]=y:=by simpa[List.getD,g2]using g3
   have hik:i<cur.length:=by omega
   simp only[B2c,A7d,zD g2,R1 g2,R1 hik,zE,getD_at g2,hx,zB,B26 g2 (by omega),B26 hik (by omega),h1,zC]
   by_cases h:y.1=d.2.2.2.2.1
   ·simp only[h,zI,zT,zA]
    rw[ih j (k+1) i cur g4 (by omega) (by omega) (by simp at hj;omega) hc]
    simp[B8t,h]
   ·simp only[h,zH,zU,zB]
    rw[show(y.1,(y.2.1,(y.2.2.1,(y.2.2.2.1,(y.2.2.2.2.1,(y.2.2.2.2.2.1,y.2.2.2.2.2.2))))))=y from rfl]
    rw[ih j (k+1) (i+1) (cur.set i y) (by rw[List.drop_set_of_lt (by omega)];exact g4) (by simp;omega) (by omega) (by simp at hj;omega) (by simpa using hc)]
    have e:(cur.set i y).take (i+1)=cur.take i++[y]:=by
     rw[List.take_add_one,List.take_set_of_le (by omega),List.getElem?_set_self hik];rfl
    rw[e]
    simp[B8t,h]
 rw[B33,h2 l d hl]
 simp only[zC]
 rcases C8o d.2.2.2.2.1 l 0 with⟨g1,g2⟩|⟨m,g1,g2,g3⟩
 ·have:B2a l d.2.2.2.2.1= -1:=g1
  rw[this,g2];rfl
 ·have e:B2a l d.2.2.2.2.1=(m:Int):=by have:=g2;rw[zS]at this;exact this
  have ne:(((m:Nat):Int)==(-1:Int))=false:=by simp
  rw[e,ne,zA,B26 g1 (by omega),loop (l.drop (m+1)) n (m+1) m l rfl (by omega) (by omega) (by simp;omega) hl,g3]
theorem F5b {l:List ByteArray}(h:l.Nodup){i j:Nat}(hi:i<l.length)(hj:j<l.length)(e:l[i]=l[j]):i=j:=by
 have h':=List.pairwise_iff_getElem.mp h
 rcases zE1 i j with c|c
 ·exact absurd e (h' i j hi hj c)
 ·rcases zE1 j i with c2|c2
  ·exact absurd e.symm (h' j i hj hi c2)
  ·omega
theorem D0e {l:B2i}{d:B3a}(h:C2i l d=0)(k1:¬d.1=1):∃i:Nat,tAt l d.2.1=(i:Int)∧∃hi:i<l.length,B5u l[i] d=0:=by
 simp only[C2i,k1,if_false]at h
 rcases C2c l d.2.1 with c|⟨i,ei,hi⟩
 ·rw[if_pos c]at h;cases h
 ·have z:¬((i:Int)<0):=by omega
  rw[ei,if_neg z,zE,getD_at hi]at h
  exact⟨i,ei,hi,h⟩
theorem D0h {x:B25}{d:B3a}(k4:d.1=4):B3n x d=(x.1,(B8t x.2.1 d.2.2.2.2.1,x.2.2)):=by
 simp only[B3n,k4,show¬(4:Int)=3 by decide,if_false,zH1,B8t]
 have e1:x.2.2.map (B5o d)=x.2.2:=by
  rw[show B5o d=id from funext fun k=>by simp[B5o,k4]];simp
 have e2:∀l:B2x,l.map (C0r d)=l:=fun l=>by
  rw[show C0r d=id from funext fun k=>by simp[C0r,k4]];simp
 rw[e1,e2]
 congr 2
 refine List.filter_congr fun c _=>?_
 simp[E53,k4]
theorem D0g {x:B25}{d:B3a}(k3:d.1=3):B3n x d=(x.1,(x.2.1++[d.2.2.1.getD 0 CZ],x.2.2)):=by
 simp only[B3n,k3,if_true]
 have e1:x.2.2.map (B5o d)=x.2.2:=by
  rw[show B5o d=id from funext fun k=>by simp[B5o,k3]];simp
 have e2:∀l:B2x,l.map (C0r d)=l:=fun l=>by
  rw[show C0r d=id from funext fun k=>by simp[C0r,k3]];simp
 rw[e1,e2]
 congr 3
 exact List.filter_eq_self.mpr fun c _=>by simp[E53,k3]
theorem C65 {x:B25}{d:B3a}(k5:d.1=5):B3n x d=(x.1,(x.2.1.map (C0r d),x.2.2.map (B5o d))):=by
 simp only[B3n,k5,show¬(5:Int)=3 by decide,if_false,zH1]
 congr 3
 exact List.filter_eq_self.mpr fun c _=>by simp[E53,k5]
theorem E0y:EV fun n=>∀(l:B2i) (d:B3a),B6o 1048576 l→B7v 1048576 d→C5n n l d.1 d.2.1 d.2.2.1 d.2.2.2.1 d.2.2.2.2.1 d.2.2.2.2.2=some (B4f l d):=(D5v.and (C5o.and (D1l.and (D1k.and (C43.and (C9v.and (C0y.and (F4y.and (C82.and (EV.gt 100)))))))))).up fun n ⟨h1,h2,h3,h4,h5,h6,h7,h8,h9,hn⟩ l d hl hd=>by
 obtain⟨m,rfl⟩:∃m,n=m+1:=⟨n - 1,by omega⟩
 have e5:=h5 l d.2.1 hl.1
 rw[show idx (fun t:B25=>decide (t.1=d.2.1)) l=tAt l d.2.1 from rfl]at e5
 simp only[C5n,h1 l hl,h2 d hd,zC,B4f,B31,B4r]
 cases hc:B73 l
 ·simp
 cases hk:B39 d
 ·simp
 have hlen:=(C3i hc).1
 simp only[zT,zA,and_self,if_true,h3 l d hl hk,zC]
 by_cases hz:C2i l d=0
 rotate_left
 ·simp only[hz,zH,zU,zB,if_false]
 simp only[hz,zI,zT,zA,if_true,h4 l hl,e5,zC]
 by_cases k1:d.1=1
 ·simp only[k1,zI,zB,B81,if_true]
  have hno:∀t∈l,t.1≠d.2.1:=fun t ht e=>by
   have:=D9j.mpr ⟨t,ht,e⟩
   simp only[C2i,k1,if_true,if_pos this]at hz
   cases hz
  have h6':=h6 d hd
  rw[k1]at h6'
  have hins:∀k,k≤l.length→B1k 64 l (k:Int) [((d.2.1,(d.2.2.1,d.2.2.2.1)):B25)]=some (l.take k++[(d.2.1,(d.2.2.1,d.2.2.2.1))]++l.drop k):=fun k hk=>F6j hk (by simp only[room,zG];omega)
  have loop:∀(t:B2i) (j k:Nat),l.drop k=t→k≤l.length→t.length<j→B7j (m+1) j (k:Int) 1 d.2.1 d.2.2.1 d.2.2.2.1 d.2.2.2.2.1 d.2.2.2.2.2 [] l=some (l.take k++B9f (d.2.1,(d.2.2.1,d.2.2.2.1)) t,(0,())):=by
   intro t
   induction t with
   |nil=>
    intro j k hdr hkl hj
    obtain⟨j,rfl⟩:∃i,j=i+1:=⟨j - 1,by simp at hj;omega⟩
    have:k=l.length:=by
     rcases zE1 k l.length with h'|h'
     ·rw[zC1 h']at hdr;cases hdr
     ·omega
    subst this
    simp only[B7j,A7d,zP,zH,zA,h6',zC,B3q,hins _ (Nat.le_refl _)]
    simp[B9f]
   |cons y t ih=>
    intro j k hdr hkl hj
    obtain⟨j,rfl⟩:∃i,j=i+1:=⟨j - 1,by simp at hj;omega⟩
    obtain⟨g2,g3,g4⟩:=B32 hdr C7a
    rw[getD_at g2]at g3
    have hy:y∈l:=by rw[←g3];exact zL g2
    have htk:l.take (k+1)=l.take k++[y]:=by rw[List.take_add_one,List.getElem?_eq_getElem g2,g3];rfl
    simp only[B7j,A7d,zD g2,R1 g2,zE,getD_at g2,g3,zB,B26 g2 (by omega),h6',zC,B3q,hins k hkl]
    cases c:Op.bytesLess y.1.toList d.2.1.toList
    ·have hl:C09 d.2.1 y.1=true:=F00 (a:=y.1) c (hno y hy)
     rw[zA,hdr]
     simp only[B9f]
     rw[if_pos hl]
     simp
    ·have hl:C09 d.2.1 y.1=false:=F32 (a:=y.1) c
     rw[zB,ih j (k+1) g4 (by omega) (by simp at hj;omega),htk]
     simp only[B9f]
     rw[if_neg (by rw[hl];simp)]
     simp
  have:=loop l (m+1) 0 rfl (by omega) (by omega)
  rw[List.take_zero,List.nil_append]at this
  exact this
 obtain⟨i,ei,hi,hf⟩:=D0e hz k1
 have hx:=hl.2 _ (zL hi)
 have hcl:=hx.2.1.1
 have hkl:=hx.2.2.1
 have htab:=(C3i hc).2 _ (zL hi)
 simp only[k1,zH,zA,B81,if_false,ei,zE,getD_at hi]
 by_cases k2:d.1=2
 ·simp only[k2,zI,zB,if_true,B55,B26 hi (by omega),F5p hi,zC]
 simp only[k2,zH,zA,if_false,R1 hi,zB]
 by_cases k3:d.1=3
 ·obtain⟨c,hcs,_⟩:=C2t hk k3
  have r1:room (l[i].2.1.length+1) 64=true:=by simp only[room,zG];omega
  simp only[k3,zI,zB,hcs,List.length_singleton,F42,Int.toNat_zero,List.getD_cons_zero,r1,Nat.beq_refl,D0g k3]
 by_cases k4:d.1=4
 ·have e8:=h8 l[i].2.1 d hcl
  rw[show((d.1,(d.2.1,(d.2.2.1,(d.2.2.2.1,(d.2.2.2.2.1,d.2.2.2.2.2))))):B3a)=d from rfl]
  simp only[k3,k4,show¬(4:Int)=3 by decide,zH,zA,zI,zB,e8,zC,Nat.beq_refl,D0h k4]
 have k5:d.1=5:=by rcases C55 hk with h|h|h|h|h<;>first|exact h|exact absurd h (by assumption)
 simp only[k5,show¬(5:Int)=3 by decide,show¬(5:Int)=4 by decide,zH,zA,zI,zB]
 have h7':∀a ks s,B2z (m+1) a l[i].2.1 ks s=some (B2a l[i].2.1 s):=fun a ks s=>h7 _ _ _ _ hcl
 simp only[h7',zC]
 have hcol:¬B2a l[i].2.1 d.2.2.2.2.1<0:=fun h=>by
  simp only[B5u,k5,show¬(5:Int)=3 by decide,show¬(5:Int)=4 by decide,if_false,if_true]at hf
  split at hf
  ·cases hf
  ·first
    |(cases hf;done)
    |(rw[if_pos h]at hf;cases hf)
 rcases C06 l[i].2.1 d.2.2.2.2.1 with c|⟨q,eq,hq,hqn⟩
 ·exact absurd c hcol
 simp only[eq,R1 hq,zB,zE,getD_at hq]
 have hset:l[i].2.1.set q (d.2.2.2.2.2,l[i].2.1[q].2)=l[i].2.1.map (C0r d):=by
  have:=F4p hq (C0r d) fun j hj hne=>by
   simp only[C0r]
   rw[if_neg]
   rintro⟨_,e⟩
   exact hne (D0j htab j q hj hq (e.trans hqn.symm))
  rw[←this]
  congr 1
  simp only[C0r]
  rw[if_pos ⟨k5,hqn⟩]
 have hgs:∀x:B25,(l.set i x).getD i C7a=x:=fun x=>by
  rw[getD_at (show i<(l.set i x).length by simpa using hi),List.getElem_set_self]
 rw[hset]
 have hgs':∀x:B25,(l.set i x).getD i (E0,([],[]))=x:=hgs
 simp only[hgs',h9 _ _ hkl,zC]
 by_cases ck:0≤idx (fun x=>decide (d.2.2.2.2.1=x)) l[i].2.2
 ·obtain⟨p,ep⟩:=Int.eq_ofNat_of_zero_le ck
  obtain⟨hp,ep2⟩:=D0k (fun x=>decide (d.2.2.2.2.1=x)) l[i].2.2 0 p (by rw[zS];exact ep)
  rw[zG]at ep2
  have hks:l[i].2.2.set p d.2.2.2.2.2=l[i].2.2.map (B5o d):=by
   have hnd:=F43 htab
   have:=F4p hp (B5o d) fun j hj hne=>by
    simp only[B5o]
    rw[if_neg]
    rintro⟨_,e⟩
    exact hne (F5b hnd hj hp (e.trans ep2))
   rw[←this]
   congr 1
   simp only[B5o]
   rw[if_pos ⟨k5,ep2.symm⟩]
  have z:(0:Int)≤(p:Int):=by omega
  simp only[ep,zD z,zB,R1 hp,zE,hks,List.set_set,C65 k5]
 ·have hno:∀y∈l[i].2.2,y≠d.2.2.2.2.1:=fun y hy e=>by
   have:=(D95 (fun x=>decide (d.2.2.2.2.1=x)) l[i].2.2).mp ck y hy
   simp[e]at this
  have hks:l[i].2.2.map (B5o d)=l[i].2.2:=by
   rw[List.map_congr_left (g:=id) fun y hy=>by simp[B5o,hno y hy]];simp
  simp only[zK ck,zA,C65 k5,hks]
theorem D02 (t y:B25):∀l:B2i,y∈B9f t l→y=t∨y∈l
 |[],h=>by simpa[B9f]using h
 |x::l,h=>by
  simp only[B9f]at h
  split at h
  ·rcases List.mem_cons.mp h with e|e
   ·exact .inl e
   ·exact .inr e
  ·rcases List.mem_cons.mp h with e|e
   ·exact .inr (by rw[e];exact zM ..)
   ·exact(D02 t y l e).imp id (zF _)
theorem E17 (t:B25):∀l:B2i,(B9f t l).length=l.length+1
 |[]=>rfl
 |x::l=>by
  simp only[B9f]
  split
  ·rfl
  ·simp[E17 t l]
theorem F4t {x:B25}{d:B3a}(hx:B2y 1048576 x)(ht:B2d x=true)(hd:B7v 1048576 d)(hk:B39 d=true):B2y 1048576 (B3n x d):=by
 obtain⟨l1,l2⟩:=F6l ht
 refine⟨hx.1,⟨?_,fun c hc=>?_⟩,⟨by simp only[B3n,List.length_map];omega,fun k hk'=>?_⟩⟩
 ·have h1:=List.length_filter_le (fun c=> !E53 d c) x.2.1
  simp only[B3n,List.length_append,List.length_map]
  split<;>simp<;>omega
 ·simp only[B3n]at hc
  rcases zY.mp hc with hc|hc
  ·obtain⟨c0,hc0,rfl⟩:=List.mem_map.mp hc
   have hs:=hx.2.1.2 c0 (List.mem_filter.mp hc0).1
   unfold C0r
   split
   ·exact⟨hd.2.2.2.2,hs.2⟩
   ·exact hs
  ·split at hc
   ·rename_i k3
    obtain⟨c1,hcs,_⟩:=C2t hk k3
    have:=hd.2.1.2
    rw[hcs]at hc this
    simp only[List.getD_cons_zero,zF1]at hc
    rw[hc];exact this c1 (by simp)
   ·cases hc
 ·obtain⟨k0,hk0,rfl⟩:=List.mem_map.mp hk'
  have hs:=hx.2.2.2 k0 hk0
  unfold B5o
  split
  ·exact hd.2.2.2.2
  ·exact hs
theorem E0n {l:B2i}{d:B3a}(hl:B6o 1048576 l)(hd:B7v 1048576 d):B6o 1048576 (B4f l d).1:=by
 unfold B4f
 split
 ·rename_i h
  obtain⟨hc,hk⟩:=h
  have h6:=(C3i hc).1
  split
  ·rename_i hz
   simp only[B81]
   split
   ·refine⟨by rw[E17];omega,fun t ht=>?_⟩
    rcases D02 _ _ _ ht with e|e
    ·rw[e];exact⟨hd.1,hd.2.1,hd.2.2.1⟩
    ·exact hl.2 t e
   ·rename_i k1
    obtain⟨i,ei,hi,_⟩:=D0e hz k1
    split
    ·exact⟨Nat.le_trans (C3u _ _) hl.1,fun t ht=>hl.2 t (C3v ht)⟩
    ·rw[ei,zE,getD_at hi]
     refine⟨by rw[List.length_set];exact hl.1,fun t ht=>?_⟩
     rcases List.mem_or_eq_of_mem_set ht with e|e
     ·exact hl.2 t e
     ·rw[e];exact F4t (hl.2 _ (zL hi)) ((C3i hc).2 _ (zL hi)) hd hk
  ·exact⟨Nat.zero_le _,fun t ht=>by cases ht⟩
 ·exact⟨Nat.zero_le _,fun t ht=>by cases ht⟩
def B8x (x:B25)(d:B3a)(r:B4x):B4x:=
 if d.1=4 then B2t r (B2a x.2.1 d.2.2.2.2.1).toNat else if d.1=3 then r++[(d.2.2.1.getD 0 CZ).2.2.2.2]else r
def B8q (x:B25)(l:B2q)(d:B3a):B2q×(Int×Unit):=
 if B3b x l=true∧B39 d=true∧d.2.1=x.1∧d.1≠1 then
  (if B5u x d=0 then(if d.1=2 then []else l.map (B8x x d),(0,()))else([],(B5u x d,())))else([],(1,()))
theorem F7w {x:B25}{s:ByteArray}(h:s=x.1):tAt [x] s=0:=by
 subst h
 simp[tAt,idx,idxFrom]
theorem E9q {x:B25}{d:B3a}(h:d.2.1=x.1)(k1:¬d.1=1):C2i [x] d=B5u x d:=by
 simp only[C2i,k1,if_false,F7w h]
 rfl
theorem F4s {x:B25}(h:B2d x=true):B73 [x]=true:=by
 simp[B73,B44,B4u,h]
theorem C8w {x:B25}{d:B3a}(k4:d.1=4)(hf:B5u x d=0):∃p:Nat,B2a x.2.1 d.2.2.2.2.1=(p:Int)∧p<x.2.1.length:=by
 rcases C06 x.2.1 d.2.2.2.2.1 with c|⟨p,ep,hp,_⟩
 ·simp only[B5u,k4,show¬(4:Int)=3 by decide,if_false,if_true,if_pos c]at hf
  cases hf
 ·exact⟨p,ep,hp⟩
theorem D48 {α:Type}:∀(t:List α) (k:Nat) (acc:List α),B9e (fun _ x (s:List α)=>s++[x]) k t acc=acc++t
 |[],k,acc=>by simp[B9e]
 |x::t,k,acc=>by
  simp only[B9e]
  rw[D48 t];simp
theorem C68 {α S:Type}{f g:Nat→α→S→S}(h:∀k x s,f k x s=g k x s):∀(t:List α) (k:Nat) (s:S),B9e f k t s=B9e g k t s
 |[],_,_=>rfl
 |x::t,k,s=>by
  simp only[B9e]
  rw[h,C68 h t]
theorem E9v {α S:Type}:∀(t:List α) (k:Nat) (s:S),B9e (fun _ _ (s:S)=>s) k t s=s
 |[],_,_=>rfl
 |x::t,k,s=>E9v t (k+1) s
theorem E34:EV fun n=>∀(x:B25) (l:B2q) (d:B3a),B2y 1048576 x→B3x 1048576 l→B7v 1048576 d→C7c n x.1 x.2.1 x.2.2 l d.1 d.2.1 d.2.2.1 d.2.2.2.1 d.2.2.2.2.1 d.2.2.2.2.2=some (B8q x l d):=(C01.and (C60.and (D06.and (C2o.and (EV.gt 1048577))))).up fun n ⟨h1,h2,h3,h4,hn⟩ x l d hx hl hd=>by
 have e3:=h3 [x] d ⟨by simp,fun t ht=>by rw[zF1.mp ht];exact hx⟩ hd
 simp only[C7c,h1 x l hx hl.1,h2 d hd,h4 _ _ _ _ hx.2.1.1,zC,B2p,B31,B4r,B8q]
 rw[show [(x.1,(x.2.1,x.2.2))]=[x]from rfl,e3]
 cases hr:B3b x l
 ·simp
 cases hk:B39 d
 ·simp
 simp only[zT,zA]
 by_cases hn1:d.2.1=x.1
 rotate_left
 ·simp[hn1]
 by_cases k1:d.1=1
 ·simp[hn1,k1]
 have ht:=(B56 hr).1
 have hlen:=(B56 hr).2.1
 simp only[hn1,k1,zI,zH,zT,zA,zC,ne_eq,not_false_eq_true,and_self,if_true,B4f,F4s ht,hk,E9q hn1 k1]
 by_cases hf:B5u x d=0
 rotate_left
 ·simp only[hf,zH,zU,zB,if_false]
 simp only[hf,zI,zT,zA,if_true]
 have hL2:∀(k0:Int→List (List (Int×(Int×ByteArray)))→Int→Int→Int→ByteArray→List (ByteArray×(Int×(Bool×(Bool×(Int×(Int×ByteArray))))))→List ByteArray→ByteArray→ByteArray→List (List (Int×(Int×ByteArray)))→Option ((List (List (Int×(Int×ByteArray))))×(Int×Unit)))
   (r:B4x) (k:Nat) (acc:B2q),r.length=x.2.1.length→k<60→acc.length≤60→
   B57 n k0 n (B2a x.2.1 d.2.2.2.2.1) l (l.length:Int) (k:Int) r (r.length:Int) ((0:Nat):Int) d.1 x.1 d.2.2.1 d.2.2.2.1 d.2.2.2.2.1 d.2.2.2.2.2 acc []=
    k0 (B2a x.2.1 d.2.2.2.2.1) l (l.length:Int) ((k+1:Nat):Int) d.1 x.1 d.2.2.1 d.2.2.2.1 d.2.2.2.2.1 d.2.2.2.2.2 (if d.1=2 then acc else acc++[B8x x d r]):=by
  intro k0 r k acc hrl hk60 hacc
  have hcl:=hx.2.1.1
  refine(C0b r (fun i v (s:B4x)=>if d.1=4∧(i:Int)=B2a x.2.1 d.2.2.2.2.1 then s else s++[v]) (fun j i s=>B57 n k0 j (B2a x.2.1 d.2.2.2.2.1) l (l.length:Int) (k:Int) r (r.length:Int) (i:Int) d.1 x.1 d.2.2.1 d.2.2.2.1 d.2.2.2.2.1 d.2.2.2.2.2 acc s)
   (fun s=>k0 (B2a x.2.1 d.2.2.2.2.1) l (l.length:Int) ((k+1:Nat):Int) d.1 x.1 d.2.2.1 d.2.2.2.1 d.2.2.2.2.1 d.2.2.2.2.2 (if d.1=2 then acc else acc++[s++(if d.1=3 then [(d.2.2.1.getD 0 CZ).2.2.2.2]else [])]))
   (fun i s=>s.length≤i) (fun i hi s hs=>?_) (fun j s hs=>?_) (fun j i s hi hs=>?_) r n 0 [] rfl (by omega) (by omega) (Nat.le_refl 0)).trans ?_
  ·split
   ·omega
   ·rw[List.length_append];simp only[zW,zX];omega
  ·have w:IntKind.wrap .i64 ((k:Int)+1)=((k+1:Nat):Int):=by rw[wrap64]<;>omega
   have r2:∀z:B4x,room (acc.length+[z].length) 24=true:=fun z=>by simp only[room,zG,zW,zX];omega
   simp only[B57,A7d,zP,zH,zA,B31,B4r,r2,zB,w]
   by_cases k3:d.1=3
   ·obtain⟨c,hcs,_⟩:=C2t hk k3
    have r1:room (s.length+1) 32=true:=by simp only[room,zG];omega
    simp only[k3,zI,zB,hcs,List.length_singleton,F42,Int.toNat_zero,List.getD_cons_zero,r1,show¬(3:Int)=2 by decide,zH,zU,if_false,if_true]
   ·by_cases k2:d.1=2
    ·simp only[k2,show¬(2:Int)=3 by decide,zH,zI,zA,zT,if_true]
    ·simp only[k3,k2,zH,zA,zU,zB,if_false,zH1]
  ·have r1:∀z:B3u,room (s.length+[z].length) 32=true:=fun z=>by simp only[room,zG,zW,zX];omega
   simp only[B57,A7d,zD hi,R1 hi,zE,getD_at hi,zB,B26 hi (by omega),B4r]
   rw[show [(r[i].1,(r[i].2.1,r[i].2.2))]=[r[i]]from rfl,r1]
   by_cases k4:d.1=4
   ·by_cases e:(i:Int)=B2a x.2.1 d.2.2.2.2.1
    ·simp only[k4,e,zI,zT,zA,and_self,if_true]
    ·simp only[k4,e,zI,zH,zT,zU,zA,zB,and_false,if_false]
   ·simp only[k4,zH,zU,zB,false_and,if_false]
  ·congr 1
   by_cases k2:d.1=2
   ·rw[if_pos k2,if_pos k2]
   rw[if_neg k2,if_neg k2]
   congr 2
   unfold B8x
   by_cases k4:d.1=4
   ·obtain⟨p,ep,hp⟩:=C8w k4 hf
    rw[if_pos k4,if_neg (by rw[k4];decide),zH1,ep,zE]
    rw[C68 (g:=fun i v (s:B4x)=>if i=p then s else s++[v]) (fun i v s=>by
     simp only[k4,true_and]
     by_cases e:i=p
     ·rw[if_pos (by omega),if_pos e]
     ·rw[if_neg (by omega),if_neg e])]
    rw[D6q p r 0 [] (Nat.zero_le _)];rfl
   ·rw[if_neg k4,C68 (g:=fun _ v (s:B4x)=>s++[v]) (fun i v s=>by simp only[k4,false_and,if_false]),D48,List.nil_append]
    by_cases k3:d.1=3
    ·rw[if_pos k3,if_pos k3]
    ·rw[if_neg k3,if_neg k3,zH1]
 refine(C0b l (fun _ r (s:B2q)=>if d.1=2 then s else s++[B8x x d r]) (fun j k s=>B5s n j (B2a x.2.1 d.2.2.2.2.1) l (l.length:Int) (k:Int) d.1 x.1 d.2.2.1 d.2.2.2.1 d.2.2.2.2.1 d.2.2.2.2.2 s) (fun s=>some (s,(0,())))
  (fun k s=>s.length≤k) (fun k hk' s hs=>?_) (fun j s hs=>?_) (fun j k s hk' hs=>?_) l n 0 [] rfl (by omega) (by omega) (Nat.le_refl 0)).trans ?_
 ·split
  ·omega
  ·rw[List.length_append];simp only[zW,zX];omega
 ·simp only[B5s,A7d,zP,zH,zA]
 ·have:=hL2 (fun y58 y59 y60 y61 y62 y63 y64 y65 y66 y67 y68=>B5s n j y58 y59 y60 y61 y62 y63 y64 y65 y66 y67 y68) l[k] k s (B8f hr _ (zL hk')) (by omega) (by omega)
  simp only[B5s,A7d,zD hk',R1 hk',zE,getD_at hk',zB]
  exact this
 ·congr 2
  by_cases k2:d.1=2
  ·rw[C68 (g:=fun _ _ (s:B2q)=>s) (fun k r s=>by rw[if_pos k2]),E9v,if_pos k2]
  ·rw[C68 (g:=fun _ r (s:B2q)=>if false=true then s else s++[B8x x d r]) (fun k r s=>by rw[if_neg k2];simp),C2u (fun _=>false) (B8x x d),if_neg k2]
   rw[List.nil_append]
   congr 1
   exact List.filter_eq_self.mpr fun _ _=>rfl
theorem E2w:EV fun n=>∀(x:B25) (l:B2q) (d:B3a),B2y 1048576 x→B3x 1048576 l→B7v 1048576 d→C73 n x.1 x.2.1 x.2.2 l d.1 d.2.1 d.2.2.1 d.2.2.2.1 d.2.2.2.2.1 d.2.2.2.2.2=some (B8q x l d):=(C1n.and (C5o.and (D1l.and (C0y.and (B9o.and (EV.gt 1048577)))))).up fun n ⟨h1,h2,h3,h4,h5,hn⟩ x l d hx hl hd=>by
 obtain⟨m,rfl⟩:∃m,n=m+1:=⟨n - 1,by omega⟩
 have h4':∀s,B2z (m+1) x.1 x.2.1 x.2.2 s=some (B2a x.2.1 s):=fun s=>h4 _ _ _ _ hx.2.1.1
 simp only[C73,h1 x l hx hl.1,h2 d hd,h4',zC,B2p,B31,B4r,B8q]
 cases hr:B3b x l
 ·simp
 cases hk:B39 d
 ·simp
 have e3:=h3 [x] d ⟨by simp,fun t ht=>by rw[zF1.mp ht];exact hx⟩ hk
 rw[show [(x.1,(x.2.1,x.2.2))]=[x]from rfl,e3]
 simp only[zT,zA]
 by_cases hn1:d.2.1=x.1
 rotate_left
 ·simp[hn1]
 by_cases k1:d.1=1
 ·simp[hn1,k1]
 have hlen:=(B56 hr).2.1
 simp only[hn1,k1,zI,zH,zT,zA,zC,ne_eq,not_false_eq_true,and_self,if_true,E9q hn1 k1]
 by_cases hf:B5u x d=0
 rotate_left
 ·simp only[hf,zH,zU,zB,if_false]
 simp only[hf,zI,zT,zA,if_true,h5 l hl,zC]
 by_cases k2:d.1=2
 ·simp only[k2,zI,zB,if_true]
 simp only[k2,zH,zA,if_false]
 by_cases k3:d.1=3
 ·obtain⟨c,hcs,_⟩:=C2t hk k3
  simp only[k3,zI,zB]
  have loop:∀(t:B2q) (j k:Nat) (s:B2q),s.drop k=t→k≤s.length→t.length<j→s.length=l.length→(∀r∈t,r.length≤1048576)→
    B8a (m+1) j (l.length:Int) (k:Int) 3 x.1 d.2.2.1 d.2.2.2.1 d.2.2.2.2.1 d.2.2.2.2.2 s=some (s.take k++t.map (B8x x d),(0,())):=by
   intro t
   induction t with
   |nil=>
    intro j k s hdr hkl hj hsl _
    obtain⟨j,rfl⟩:∃i,j=i+1:=⟨j - 1,by simp at hj;omega⟩
    have:k=s.length:=by
     rcases zE1 k s.length with h'|h'
     ·rw[zC1 h']at hdr;cases hdr
     ·omega
    subst this
    simp only[B8a,hsl,A7d,zP,zH,zA]
    rw[←hsl,List.take_length];simp
   |cons r t ih=>
    intro j k s hdr hkl hj hsl hrl
    obtain⟨j,rfl⟩:∃i,j=i+1:=⟨j - 1,by simp at hj;omega⟩
    obtain⟨g2,g3,g4⟩:=B32 hdr []
    have hk2:k<l.length:=by omega
    have hrr:=hrl r (zM ..)
    have r1:room (r.length+1) 32=true:=by simp only[room,zG];omega
    simp only[B8a,A7d,zD hk2,R1 g2,zE,g3,zB,hcs,List.length_singleton,F42,Int.toNat_zero,List.getD_cons_zero,r1,Nat.beq_refl,B26 hk2 (by omega)]
    have:=ih j (k+1) (s.set k (r++[c.2.2.2.2])) (by rw[List.drop_set_of_lt (by omega)];exact g4) (by simp;omega) (by simp at hj;omega) (by simpa using hsl) (fun r' hr'=>hrl r' (zF _ hr'))
    rw[hcs]at this
    rw[this]
    have hset:(s.set k (r++[c.2.2.2.2])).take (k+1)=s.take k++[r++[c.2.2.2.2]]:=by
     rw[List.take_add_one,List.take_set_of_le (by omega),List.getElem?_set_self g2];rfl
    rw[hset]
    simp[B8x,k3,hcs]
  have:=loop l (m+1) 0 l rfl (by omega) (by omega) rfl fun r hr'=>by
   have:=B8f hr r hr'
   have:=hx.2.1.1
   omega
  rw[List.take_zero,List.nil_append]at this
  exact this
 by_cases k4:d.1=4
 ·obtain⟨p,ep,hp⟩:=C8w k4 hf
  simp only[k4,show¬(4:Int)=3 by decide,zH,zA,zI,zB,ep]
  have hcl:=hx.2.1.1
  have loop:∀(t:B2q) (j k:Nat) (s:B2q),s.drop k=t→k≤s.length→t.length<j→s.length=l.length→(∀r∈t,p<r.length)→
    B8b (m+1) j (p:Int) (l.length:Int) (k:Int) s=some (s.take k++t.map (B8x x d),(0,())):=by
   intro t
   induction t with
   |nil=>
    intro j k s hdr hkl hj hsl _
    obtain⟨j,rfl⟩:∃i,j=i+1:=⟨j - 1,by simp at hj;omega⟩
    have:k=s.length:=by
     rcases zE1 k s.length with h'|h'
     ·rw[zC1 h']at hdr;cases hdr
     ·omega
    subst this
    simp only[B8b,hsl,A7d,zP,zH,zA]
    rw[←hsl,List.take_length];simp
   |cons r t ih=>
    intro j k s hdr hkl hj hsl hrl
    obtain⟨j,rfl⟩:∃i,j=i+1:=⟨j - 1,by simp at hj;omega⟩
    obtain⟨g2,g3,g4⟩:=B32 hdr []
    have hk2:k<l.length:=by omega
    have hrr:=hrl r (zM ..)
    have wp:IntKind.wrap .i64 ((p:Int)+1)=((p+1:Nat):Int):=by rw[wrap64]<;>omega
    simp only[B8b,A7d,zD hk2,R1 g2,zE,g3,zB,B5v,wp,F5p hrr,zC,Nat.beq_refl,B26 hk2 (by omega)]
    rw[ih j (k+1) (s.set k (B2t r p)) (by rw[List.drop_set_of_lt (by omega)];exact g4) (by simp;omega) (by simp at hj;omega) (by simpa using hsl) (fun r' hr'=>hrl r' (zF _ hr'))]
    have hset:(s.set k (B2t r p)).take (k+1)=s.take k++[B2t r p]:=by
     rw[List.take_add_one,List.take_set_of_le (by omega),List.getElem?_set_self g2];rfl
    rw[hset]
    simp[B8x,k4,ep]
  have:=loop l (m+1) 0 l rfl (by omega) (by omega) rfl fun r hr'=>by
   rw[B8f hr r hr'];exact hp
  rw[List.take_zero,List.nil_append]at this
  exact this
 ·simp only[k3,k4,zH,zA]
  rw[show B8x x d=id from funext fun r=>by simp[B8x,k3,k4],List.map_id]
theorem E1v {x:B25}{l:B2q}{d:B3a}(hx:B2y 1048576 x)(hl:B3x 1048576 l)(hd:B7v 1048576 d):B3x 1048576 (B8q x l d).1:=by
 unfold B8q
 split
 ·rename_i h
  obtain⟨hr,hk,_,_⟩:=h
  split
  ·dsimp only
   split
   ·exact C0h
   ·refine⟨by rw[List.length_map];exact hl.1,fun r hr'=>?_⟩
    obtain⟨r0,h0,rfl⟩:=List.mem_map.mp hr'
    have hs:=hl.2 r0 h0
    have h8:=(B90 (B56 hr).1).2.2.1
    have hrl:=B8f hr r0 h0
    unfold B8x
    split
    ·exact⟨Nat.le_trans (C3u _ _) hs.1,fun v hv=>hs.2 v (C3v hv)⟩
    ·split
     ·rename_i k3
      obtain⟨c,hcs,_⟩:=C2t hk k3
      refine⟨by rw[List.length_append];simp only[zW,zX];omega,fun v hv=>?_⟩
      rcases zY.mp hv with hv|hv
      ·exact hs.2 v hv
      ·rw[hcs]at hv
       simp only[List.getD_cons_zero,zF1]at hv
       have:=hd.2.1.2 c (by rw[hcs];simp)
       rw[hv]
       exact this.2
     ·exact hs
  ·exact C0h
 ·exact C0h
def C38:B5z:=([],[])
def C1e (x:B25)(l:B2q)(s:B3t):B2q×(Int×Unit):=
 if s.1=1 then C5k x l s.2.2.2.1 else if s.1=2 then C5l x l s.2.2.1 s.2.2.2.1 else if s.1=3 then C5j x l s.2.2.1 else if s.1=5 then B8q x l s.2.2.2.2 else([],(0,()))
def B75 (d:B5z)(s:B3t)(t:B25):B2q:=
 if 0≤tAt d.1 t.1 then(if t.1=s.2.1 then(B8q (d.1.getD (tAt d.1 t.1).toNat C7a) (d.2.getD (tAt d.1 t.1).toNat []) s.2.2.2.2).1 else d.2.getD (tAt d.1 t.1).toNat [])else []
def C3h (d:B5z)(s:B3t):B5z×(Int×Unit):=
 if(B4f d.1 s.2.2.2.2).2.1=0 then(((B4f d.1 s.2.2.2.2).1,(B4f d.1 s.2.2.2.2).1.map (B75 d s)),(0,()))else(C38,(10+(B4f d.1 s.2.2.2.2).2.1,()))
def C1c (d:B5z)(s:B3t):B5z×(Int×Unit):=
 if tAt d.1 s.2.1<0∧(s.1≠5∨s.2.2.2.2.1≠1)then(C38,(4,()))else
 if s.1=5 then C3h d s else
 if(C1e (d.1.getD (tAt d.1 s.2.1).toNat C7a) (d.2.getD (tAt d.1 s.2.1).toNat []) s).2.1=0 then((d.1,d.2.set (tAt d.1 s.2.1).toNat (C1e (d.1.getD (tAt d.1 s.2.1).toNat C7a) (d.2.getD (tAt d.1 s.2.1).toNat []) s).1),(0,()))
 else(C38,(10+(C1e (d.1.getD (tAt d.1 s.2.1).toNat C7a) (d.2.getD (tAt d.1 s.2.1).toNat []) s).2.1,()))
def F5i (d:B5z)(s:B3t):B5z×(Int×Unit):=if B69 d=true∧B3l s=true then C1c d s else(C38,(1,()))
theorem F77 {s:B3t}(h:B3l s=true)(k5:s.1=5):B39 s.2.2.2.2=true∧s.2.1=s.2.2.2.2.2.1:=by
 simp only[B3l,k5,if_true,zJ,zG]at h
 exact⟨h.1.1.1,h.1.1.2⟩
def E1a (c:Int):Prop:=0≤c∧c≤100
theorem E54 (x:B25)(d:B3a):E1a (B5u x d):=by
 unfold B5u E1a
 repeat' split
 all_goals omega
theorem F4u (l:B2i)(d:B3a):E1a (C2i l d):=by
 unfold C2i
 split
 ·split
  ·exact⟨by omega,by omega⟩
  ·split
   ·exact⟨by omega,by omega⟩
   ·exact⟨by omega,by omega⟩
 ·split
  ·exact⟨by omega,by omega⟩
  ·exact E54 _ _
theorem D6l (l:B2i)(d:B3a):E1a (B4f l d).2.1:=by
 unfold B4f
 split
 ·split
  ·exact⟨by simp,by simp⟩
  ·exact F4u _ _
 ·exact⟨by simp,by simp⟩
theorem E0r (x:B25)(l:B2q)(s:B3t):E1a (C1e x l s).2.1:=by
 unfold C1e
 split
 ·unfold C5k
  repeat' split
  all_goals exact⟨by simp,by simp⟩
 split
 ·unfold C5l
  repeat' split
  all_goals exact⟨by simp,by simp⟩
 split
 ·unfold C5j
  repeat' split
  all_goals exact⟨by simp,by simp⟩
 split
 ·unfold B8q
  split
  ·split
   ·exact⟨by simp,by simp⟩
   ·exact E54 _ _
  ·exact⟨by simp,by simp⟩
 ·exact⟨by simp,by simp⟩
theorem F2a {c:Int}(h:E1a c):IntKind.wrap .i64 ((10:Int)+c)=10+c:=by
 obtain⟨h1,h2⟩:=h
 rw[wrap64]<;>omega
theorem F5k {x:B25}{l:B2q}{s:B3t}(hx:B2y 1048576 x)(hl:B3x 1048576 l)(hs:B8y 1048576 s):B3x 1048576 (C1e x l s).1:=by
 unfold C1e
 split
 ·obtain⟨n,h⟩:=F3e
  obtain⟨n2,h2⟩:=C87
  obtain⟨r,e1,_,e3⟩:=h (max n n2) (Nat.le_max_left ..) x l s.2.2.2.1 hx hl hs.2.2.1
  rw[h2 (max n n2) (Nat.le_max_right ..) x l s.2.2.2.1 hx hl hs.2.2.1.1]at e1
  obtain rfl:=oI e1;exact e3
 split
 ·obtain⟨n,h⟩:=F3f
  obtain⟨n2,h2⟩:=C88
  obtain⟨r,e1,_,e3⟩:=h (max n n2) (Nat.le_max_left ..) x l s.2.2.1 s.2.2.2.1 hx hl hs.2.1 hs.2.2.1
  rw[h2 (max n n2) (Nat.le_max_right ..) x l s.2.2.1 s.2.2.2.1 hx hl hs.2.2.1.1]at e1
  obtain rfl:=oI e1;exact e3
 split
 ·obtain⟨n,h⟩:=F3d
  obtain⟨n2,h2⟩:=C86
  obtain⟨r,e1,_,e3⟩:=h (max n n2) (Nat.le_max_left ..) x l s.2.2.1 hx hl hs.2.1
  rw[h2 (max n n2) (Nat.le_max_right ..) x l s.2.2.1 hx hl]at e1
  obtain rfl:=oI e1;exact e3
 split
 ·exact E1v hx hl hs.2.2.2
 ·exact C0h
theorem D1r:EV fun n=>∀(x:B25) (l:B2q) (s:B3t),B2y 1048576 x→B3x 1048576 l→B8y 1048576 s→C29 n x.1 x.2.1 x.2.2 l s.1 s.2.1 s.2.2.1 s.2.2.2.1 s.2.2.2.2.1 s.2.2.2.2.2.1 s.2.2.2.2.2.2.1 s.2.2.2.2.2.2.2.1 s.2.2.2.2.2.2.2.2.1 s.2.2.2.2.2.2.2.2.2=some (C1e x l s):=(C87.and (C88.and (C86.and E34))).up fun n ⟨h1,h2,h3,h4⟩ x l s hx hl hs=>by
 simp only[C29,h1 x l _ hx hl hs.2.2.1.1,h2 x l _ _ hx hl hs.2.2.1.1,h3 x l _ hx hl,h4 x l s.2.2.2.2 hx hl hs.2.2.2,zC,B31,C1e,C5h]
 split
 ·rfl
 split
 ·rfl
 split
 ·rfl
 split<;>rfl
theorem E3a:EV fun n=>∀d:B5z,B9g 1048576 d→C4v n d.1 d.2=some d:=(D1o.and (D1p.and (EV.gt 1048577))).up fun n ⟨h1,h2,hn⟩ d hs=>by
 have hl:=hs.2.1
 simp only[C4v,h1 d.1 hs.1,zC]
 refine(C0b d.2 (fun _ x (s:B71)=>s++[x]) (fun j k acc=>B8j n j d.2 (d.2.length:Int) (k:Int) [] [] d.1 acc) (fun s=>some (d.1,s)) (fun k s=>s.length≤k) (fun k hk s h=>?_) (fun j acc _=>?_) (fun j k acc hk ha=>?_) d.2 n 0 [] rfl (by omega) (by omega) (Nat.le_refl 0)).trans ?_
 ·rw[List.length_append];simp only[zW,zX];omega
 ·simp only[B8j,A7d,zP,zH,zA]
 ·have e:=h2 d.2[k] (hs.2.2 _ (zL hk))
  have r3:∀x:D3e,room (acc.length+[x].length) 24=true:=fun x=>by simp only[room,zG,zW,zX];omega
  simp only[B8j,A7d,zD hk,R1 hk,zE,getD_at hk,zB,B26 hk (by omega),e,zC,r3]
 ·rw[D48];rfl
theorem D3q:EV fun n=>∀d:B5z,B9g 1048576 d→B5q n d.1 d.2=some d:=(D1k.and (B9o.and (EV.gt 1048577))).up fun n ⟨h1,h2,hn⟩ d hs=>by
 have hl:=hs.2.1
 simp only[B5q,h1 d.1 hs.1,zC]
 refine(C0b d.2 (fun _ x (s:B71)=>s++[x]) (fun j k acc=>B9n n j d.2 (d.2.length:Int) (k:Int) [] [] d.1 acc) (fun s=>some (d.1,s)) (fun k s=>s.length≤k) (fun k hk s h=>?_) (fun j acc _=>?_) (fun j k acc hk ha=>?_) d.2 n 0 [] rfl (by omega) (by omega) (Nat.le_refl 0)).trans ?_
 ·rw[List.length_append];simp only[zW,zX];omega
 ·simp only[B9n,A7d,zP,zH,zA]
 ·have e:=h2 d.2[k] (hs.2.2 _ (zL hk))
  have r3:∀x:D3e,room (acc.length+[x].length) 24=true:=fun x=>by simp only[room,zG,zW,zX];omega
  simp only[B9n,A7d,zD hk,R1 hk,zE,getD_at hk,zB,B26 hk (by omega),e,zC,r3]
 ·rw[D48];rfl
theorem C7z {d:B5z}(hd:B69 d=true)(s:B3t){t:B25}{i:Nat}(hi:i<d.1.length)(e:t.1=d.1[i].1):B75 d s t=if d.1[i].1=s.2.1 then(B8q d.1[i] (d.2[i]'(by have:=(C7m hd).1;omega)) s.2.2.2.2).1 else d.2[i]'(by have:=(C7m hd).1;omega):=by
 obtain⟨hc,hl,_⟩:=B8u hd
 have hi2:i<d.2.length:=by omega
 unfold B75
 rw[e,F49 hc hi,if_pos (by omega)]
 simp only[zE,getD_at hi,getD_at hi2]
theorem D9g:EV fun n=>∀(d:B5z) (s:B3t),B9g 1048576 d→B8y 1048576 s→B69 d=true→s.1=5→C1t n d.1 d.2 s.1 s.2.1 s.2.2.1 s.2.2.2.1 s.2.2.2.2.1 s.2.2.2.2.2.1 s.2.2.2.2.2.2.1 s.2.2.2.2.2.2.2.1 s.2.2.2.2.2.2.2.2.1 s.2.2.2.2.2.2.2.2.2=some (C3h d s):=(D06.and (C9c.and (D1r.and (D1p.and (EV.gt 1048577))))).up fun n ⟨h1,h2,h3,h4,hn⟩ d s hd hs ok k5=>by
 obtain⟨hc,hl,_⟩:=B8u ok
 have hsm:=E0n hd.1 hs.2.2.2
 simp only[C1t,h1 d.1 s.2.2.2.2 hd.1 hs.2.2.2,zC,B4r,C3h,F2a (D6l d.1 s.2.2.2.2)]
 by_cases hz:(B4f d.1 s.2.2.2.2).2.1=0
 rotate_left
 ·simp only[hz,zH,zU,zB,if_false];rfl
 simp only[hz,zI,zT,zA,if_true]
 generalize (B4f d.1 s.2.2.2.2).1=c at hsm
 have hcl:=hsm.1
 refine(C0b c (fun _ t (q:B71)=>if false=true then q else q++[B75 d s t]) (fun j k acc=>B49 n j c (c.length:Int) (k:Int) d.1 d.2 s.1 s.2.1 s.2.2.1 s.2.2.2.1 s.2.2.2.2.1 s.2.2.2.2.2.1 s.2.2.2.2.2.2.1 s.2.2.2.2.2.2.2.1 s.2.2.2.2.2.2.2.2.1 s.2.2.2.2.2.2.2.2.2 [] [] c acc) (fun q=>some ((c,q),(0,())))
  (fun k q=>q.length≤k) (fun k hk q h=>?_) (fun j acc _=>?_) (fun j k acc hk ha=>?_) c n 0 [] rfl (by omega) (by omega) (Nat.le_refl 0)).trans ?_
 ·simp only[Bool.false_eq_true,if_false,List.length_append,zW,zX];omega
 ·simp only[B49,A7d,zP,zH,zA]
 ·have e2:=h2 d.1 c[k].1 hd.1.1
  rw[show idx (fun t:B25=>decide (t.1=c[k].1)) d.1=tAt d.1 c[k].1 from rfl]at e2
  have r3:∀x:D3e,room (acc.length+[x].length) 24=true:=fun x=>by simp only[room,zG,zW,zX];omega
  simp only[B49,A7d,zD hk,R1 hk,zE,getD_at hk,zB,B26 hk (by omega),e2,zC,B2p,Bool.false_eq_true,if_false,B75]
  rcases C2c d.1 c[k].1 with cn|⟨i,ei,hi⟩
  ·have z:¬(0≤tAt d.1 c[k].1):=by omega
   simp only[zK z,zA,r3,zB,if_neg z]
  ·have z:(0:Int)≤(i:Int):=by omega
   have hi2:i<d.2.length:=by omega
   have e3:=h3 d.1[i] d.2[i] s (hd.1.2 _ (zL hi)) (hd.2.2 _ (zL hi2)) hs
   have e4:=h4 d.2[i] (hd.2.2 _ (zL hi2))
   have e5:C1e d.1[i] d.2[i] s=B8q d.1[i] d.2[i] s.2.2.2.2:=by simp[C1e,k5]
   simp only[ei,zD z,zB,R1 hi,R1 hi2,zE,getD_at hi,getD_at hi2,e3,e4,e5,zC,r3,if_pos z,C5h]
   split<;>rfl
 ·rw[C2u (fun _=>false) (B75 d s),List.nil_append]
  rw[show c.filter (fun _=> !false)=c from List.filter_eq_self.mpr fun _ _=>rfl]
theorem F1d:EV fun n=>∀(d:B5z) (s:B3t),B9g 1048576 d→B8y 1048576 s→D4g n d.1 d.2 s.1 s.2.1 s.2.2.1 s.2.2.2.1 s.2.2.2.2.1 s.2.2.2.2.2.1 s.2.2.2.2.2.2.1 s.2.2.2.2.2.2.2.1 s.2.2.2.2.2.2.2.2.1 s.2.2.2.2.2.2.2.2.2=some (F5i d s):=(D9e.and (D3z.and (C9c.and (D9g.and (D1r.and E3a))))).up fun n ⟨h1,h2,h3,h4,h5,h6⟩ d s hd hs=>by
 have e3:=h3 d.1 s.2.1 hd.1.1
 rw[show idx (fun t:B25=>decide (t.1=s.2.1)) d.1=tAt d.1 s.2.1 from rfl]at e3
 simp only[D4g,h1 d hd,h2 s hs,e3,h6 d hd,zC,F5i,B31,B4r]
 cases ok:B69 d
 ·simp;rfl
 cases sk:B3l s
 ·simp;rfl
 obtain⟨hc,hl,_⟩:=B8u ok
 simp only[zT,zA,and_self,if_true,C1c]
 by_cases k5:s.1=5
 ·have e4:=h4 d s hd hs ok k5
  simp only[k5]at e4
  simp only[k5,zI,zT,zB,zA,e4,zC,ne_eq,not_true_eq_false,false_or,if_true]
  by_cases c:tAt d.1 s.2.1<0
  ·by_cases k1:s.2.2.2.2.1=1
   ·simp only[zD c,k1,zI,zB,zT,zA,not_true_eq_false,and_false,if_false]
   ·simp only[zD c,k1,zH,zB,zU,not_false_eq_true,and_true,if_pos c];rfl
  ·simp only[zK c,zA]
   rw[if_neg (fun h=>c h.1)]
 ·simp only[k5,zH,zU,zB,zA,ne_eq,not_false_eq_true,true_or,and_true,if_false]
  rcases C2c d.1 s.2.1 with cn|⟨i,ei,hi⟩
  ·simp only[zD cn,zB,if_pos cn];rfl
  ·have z:¬((i:Int)<0):=by omega
   have hi2:i<d.2.length:=by omega
   have e5:=h5 d.1[i] d.2[i] s (hd.1.2 _ (zL hi)) (hd.2.2 _ (zL hi2)) hs
   simp only[ei,zK z,zA,R1 hi,R1 hi2,zB,zE,getD_at hi,getD_at hi2,e5,zC,if_neg z,F2a (E0r _ _ _)]
   by_cases hz:(C1e d.1[i] d.2[i] s).2.1=0
   ·simp only[hz,zI,zT,zA,if_true]
   ·simp only[hz,zH,zU,zB,if_false];rfl
theorem E21 (x:B25):∀l:B2i,(∀t∈l,t.1≠x.1)→∃p,p≤l.length∧tAt (B9f x l) x.1=(p:Int)∧B9f x l=l.take p++[x]++l.drop p
 |[],_=>⟨0,by simp,by simp[B9f,tAt,idx,idxFrom],by simp[B9f]⟩
 |y::l,h=>by
  simp only[B9f]
  split
  ·exact⟨0,by simp,by simp[tAt,idx,idxFrom],by simp⟩
  ·obtain⟨p,h1,h2,h3⟩:=E21 x l fun t ht=>h t (zF _ ht)
   refine⟨p+1,by simp;omega,?_,by rw[h3];simp⟩
   have hy:decide (y.1=x.1)=false:=zK (h y (zM ..))
   have e:tAt (y::B9f x l) x.1=idxFrom (fun t:B25=>decide (t.1=x.1)) (B9f x l) 1:=D3l (p:=fun t:B25=>decide (t.1=x.1)) hy
   rw[e]
   rcases C21 (fun t:B25=>decide (t.1=x.1)) (B9f x l) 1 with⟨_,g⟩|⟨m,_,g2,g3⟩
   ·have h2':idxFrom (fun t:B25=>decide (t.1=x.1)) (B9f x l) 0=(p:Int):=h2
    rw[g]at h2';omega
   ·have h2':idxFrom (fun t:B25=>decide (t.1=x.1)) (B9f x l) 0=(p:Int):=h2
    rw[g2]at h2'
    rw[g3];omega
theorem F6y {d:B5z}(hd:B69 d=true)(s:B3t)(hn:tAt d.1 s.2.1<0):d.1.map (B75 d s)=d.2:=by
 obtain⟨hc,hl,_⟩:=B8u hd
 refine List.ext_getElem (by simp[hl]) fun j h1 h2=>?_
 have hj:j<d.1.length:=by simpa using h1
 rw[List.getElem_map,C7z hd s hj rfl,if_neg]
 intro e
 have:=D9j.mpr ⟨d.1[j],zL hj,e⟩
 omega
theorem D6y {d:B5z}(hd:B69 d=true)(s:B3t){i:Nat}(ei:tAt d.1 s.2.1=(i:Int)){j:Nat}(hj:j<d.1.length)(hne:j≠i):B75 d s d.1[j]=d.2[j]'(by have:=(C7m hd).1;omega):=by
 obtain⟨hc,hl,_⟩:=B8u hd
 rw[C7z hd s hj rfl,if_neg]
 intro e
 have:=F49 hc hj
 rw[e,ei]at this
 omega
theorem F6z {d:B5z}(hd:B69 d=true)(s:B3t){i:Nat}(ei:tAt d.1 s.2.1=(i:Int)):(B2t d.1 i).map (B75 d s)=B2t d.2 i:=by
 obtain⟨hc,hl,_⟩:=B8u hd
 have h1:(d.1.take i).map (B75 d s)=d.2.take i:=by
  refine List.ext_getElem (by simp[hl]) fun j h1 h2=>?_
  simp only[List.length_map,List.length_take]at h1
  rw[List.getElem_map,List.getElem_take,List.getElem_take]
  exact D6y hd s ei (by omega) (by omega)
 have h2:(d.1.drop (i+1)).map (B75 d s)=d.2.drop (i+1):=by
  refine List.ext_getElem (by simp[hl]) fun j h1 h2=>?_
  simp only[List.length_map,List.length_drop]at h1
  rw[List.getElem_map,List.getElem_drop,List.getElem_drop]
  exact D6y hd s ei (by omega) (by omega)
 simp only[B2t,List.map_append,h1,h2]
theorem F70 {d:B5z}(hd:B69 d=true)(s:B3t){i:Nat}(ei:tAt d.1 s.2.1=(i:Int))(hi:i<d.1.length){t:B25}(ht:t.1=d.1[i].1):
  (d.1.set i t).map (B75 d s)=d.2.set i (B8q d.1[i] (d.2[i]'(by have:=(C7m hd).1;omega)) s.2.2.2.2).1:=by
 obtain⟨hc,hl,_⟩:=B8u hd
 have hni:d.1[i].1=s.2.1:=by
  obtain⟨h,e⟩:=D0k (fun t:B25=>decide (t.1=s.2.1)) d.1 0 i (by rw[zS];exact ei)
  rwa[zG]at e
 refine List.ext_getElem (by simp[hl]) fun j h1 h2=>?_
 have hj:j<d.1.length:=by simpa using h1
 rw[List.getElem_map,List.getElem_set,List.getElem_set]
 split
 ·rename_i e;subst e
  rw[C7z hd s hi ht,if_pos hni]
 ·rename_i e
  exact D6y hd s ei hj fun h=>e h.symm
theorem E31:EV fun n=>∀(d:B5z) (s:B3t),B9g 1048576 d→B8y 1048576 s→B69 d=true→B3l s=true→s.1=5→C49 n d.1 d.2 s.2.2.2.2.1 s.2.2.2.2.2.1 s.2.2.2.2.2.2.1 s.2.2.2.2.2.2.2.1 s.2.2.2.2.2.2.2.2.1 s.2.2.2.2.2.2.2.2.2=
  some (if(B4f d.1 s.2.2.2.2).2.1=0 then C3h d s else(C38,((B4f d.1 s.2.2.2.2).2.1,()))):=(E0y.and (D3q.and (C43.and (E2w.and (EV.gt 100))))).up fun n ⟨h1,h2,h3,h4,hn⟩ d s hd hs ok sk k5=>by
 obtain⟨m,rfl⟩:∃m,n=m+1:=⟨n - 1,by omega⟩
 obtain⟨hc,hl,hrow⟩:=B8u ok
 obtain⟨dk,htb⟩:=F77 sk k5
 have hl6:=(C7m ok).2
 have hsm:=E0n hd.1 hs.2.2.2
 have e3:=fun l hl'=>h3 l s.2.2.2.2.2.1 hl'
 simp only[show∀l:B2i,idx (fun t:B25=>decide (t.1=s.2.2.2.2.2.1)) l=tAt l s.2.1 from fun l=>by rw[htb];rfl]at e3
 simp only[C49,h1 d.1 s.2.2.2.2 hd.1 hs.2.2.2,zC,B4r,B31,h2 d hd,e3 d.1 hd.1.1,e3 _ hsm.1]
 by_cases hz:(B4f d.1 s.2.2.2.2).2.1=0
 rotate_left
 ·simp only[hz,zH,zU,zB,if_false];rfl
 have hcode:C2i d.1 s.2.2.2.2=0:=by
  simp only[B4f,hc,dk,and_self,if_true]at hz
  by_cases h:C2i d.1 s.2.2.2.2=0
  ·exact h
  ·rw[if_neg h]at hz;exact absurd hz h
 have hcat:(B4f d.1 s.2.2.2.2).1=B81 d.1 s.2.2.2.2:=by simp[B4f,hc,dk,hcode]
 simp only[hz,zI,zT,zA,if_true,C3h,hcat]
 by_cases k1:s.2.2.2.2.1=1
 ·have hno:¬0≤tAt d.1 s.2.1:=fun h=>by
   simp only[C2i,k1,if_true]at hcode
   rw[htb]at h
   rw[if_pos h]at hcode;cases hcode
  have hno':∀t∈d.1,t.1≠s.2.2.2.2.2.1:=fun t ht e=>hno (D9j.mpr ⟨t,ht,e.trans htb.symm⟩)
  obtain⟨p,hp,ep,es⟩:=E21 (s.2.2.2.2.2.1,(s.2.2.2.2.2.2.1,s.2.2.2.2.2.2.2.1)) d.1 hno'
  have ep':tAt (B81 d.1 s.2.2.2.2) s.2.1=(p:Int):=by rw[htb];simp only[B81,k1,if_true];exact ep
  have hins:B1k 24 d.2 (p:Int) [([]:D3e)]=some (d.2.take p++[[]]++d.2.drop p):=F6j (by omega) (by simp only[room,zG];omega)
  simp only[k1,zI,zB,ep',B5c,hins,zC]
  congr 3
  simp only[B81,k1,if_true]
  rw[es]
  have hm:=F6y ok s (by omega)
  simp only[List.map_append,List.map_cons,List.map_nil,List.map_take,List.map_drop,hm]
  congr 2
  simp only[B75]
  rw[if_neg (by rw[←htb];exact hno)]
 obtain⟨i,ei,hi,hf⟩:=D0e hcode k1
 rw[←htb]at ei
 have hi2:i<d.2.length:=by omega
 simp only[k1,zH,zA,ei]
 by_cases k2:s.2.2.2.2.1=2
 ·simp only[k2,zI,zB,B5b,B26 hi (by omega),F5p hi2,zC]
  congr 3
  simp only[B81,k2,show¬(2:Int)=1 by decide,if_false,if_true]
  rw[←htb,ei,zE,F6z ok s ei]
 ·have e4:=h4 d.1[i] d.2[i] s.2.2.2.2 (hd.1.2 _ (zL hi)) (hd.2.2 _ (zL hi2)) hs.2.2.2
  simp only[k2,zH,zA,R1 hi,R1 hi2,zB,zE,getD_at hi,getD_at hi2,e4,zC]
  congr 3
  simp only[B81,k1,k2,if_false]
  rw[←htb,ei,zE,getD_at hi,F70 ok s ei hi (t:=B3n d.1[i] s.2.2.2.2) rfl]
theorem F15:EV fun n=>∀(d:B5z) (s:B3t),B9g 1048576 d→B8y 1048576 s→B69 d=true→B3l s=true→D4b n d.1 d.2 s.1 s.2.1 s.2.2.1 s.2.2.2.1 s.2.2.2.2.1 s.2.2.2.2.2.1 s.2.2.2.2.2.2.1 s.2.2.2.2.2.2.2.1 s.2.2.2.2.2.2.2.2.1 s.2.2.2.2.2.2.2.2.2=some (C1c d s):=(C43.and (E31.and (D3n.and (D3o.and (D3m.and D3q))))).up fun n ⟨h1,h2,h3,h4,h5,h6⟩ d s hd hs ok sk=>by
 have e1:=h1 d.1 s.2.1 hd.1.1
 rw[show idx (fun t:B25=>decide (t.1=s.2.1)) d.1=tAt d.1 s.2.1 from rfl]at e1
 obtain⟨hc,hl,_⟩:=B8u ok
 simp only[D4b,e1,h6 d hd,zC,B31,B4r,C1c]
 by_cases k5:s.1=5
 ·have e2:=h2 d s hd hs ok sk k5
  have key:∀(β:Type) (f:B5z×(Int×Unit)→Option β),(some (if(B4f d.1 s.2.2.2.2).2.1=0 then C3h d s else(C38,((B4f d.1 s.2.2.2.2).2.1,())))).bind f=f (if(B4f d.1 s.2.2.2.2).2.1=0 then C3h d s else(C38,((B4f d.1 s.2.2.2.2).2.1,()))):=fun _ _=>rfl
  simp only[k5,zI,zT,zB,zA,e2,key,ne_eq,not_true_eq_false,false_or,if_true]
  have fin:(bif !decide ((if(B4f d.1 s.2.2.2.2).2.1=0 then C3h d s else(C38,((B4f d.1 s.2.2.2.2).2.1,()))).2.1=0)then
    some ((([]:B2i),([]:B71)),(IntKind.wrap .i64 ((10:Int)+(if(B4f d.1 s.2.2.2.2).2.1=0 then C3h d s else(C38,((B4f d.1 s.2.2.2.2).2.1,()))).2.1),()))
    else some (((if(B4f d.1 s.2.2.2.2).2.1=0 then C3h d s else(C38,((B4f d.1 s.2.2.2.2).2.1,()))).1.1,(if(B4f d.1 s.2.2.2.2).2.1=0 then C3h d s else(C38,((B4f d.1 s.2.2.2.2).2.1,()))).1.2),(0,())))=some (C3h d s):=by
   by_cases hz:(B4f d.1 s.2.2.2.2).2.1=0
   ·have e:(C3h d s).2.1=0:=by simp[C3h,hz]
    have e':C3h d s=((C3h d s).1,(0,())):=by rw[C3h,if_pos hz]
    simp only[if_pos hz,e,zI,zT,zA]
    rw[e']
   ·simp only[if_neg hz,hz,zH,zU,zB,F2a (D6l d.1 s.2.2.2.2),C3h,if_false]
    rfl
  by_cases c:tAt d.1 s.2.1<0
  ·by_cases k1:s.2.2.2.2.1=1
   ·simp only[zD c,k1,zI,zB,zT,zA,not_true_eq_false,and_false,if_false]
    exact fin
   ·simp only[zD c,k1,zH,zB,zU,not_false_eq_true,and_true,if_pos c];rfl
  ·simp only[zK c,zA,c,false_and,if_false]
   exact fin
 ·simp only[k5,zH,zU,zB,zA,ne_eq,not_false_eq_true,true_or,and_true,if_false]
  rcases C2c d.1 s.2.1 with cn|⟨i,ei,hi⟩
  ·simp only[zD cn,zB,if_pos cn];rfl
  ·have z:¬((i:Int)<0):=by omega
   have hi2:i<d.2.length:=by omega
   have hx:=hd.1.2 _ (zL hi)
   have hr:=hd.2.2 _ (zL hi2)
   simp only[ei,zK z,zA,R1 hi,R1 hi2,zB,zE,getD_at hi,getD_at hi2,if_neg z]
   have w:=F2a (E0r d.1[i] d.2[i] s)
   by_cases k1:s.1=1
   ·have e:C1e d.1[i] d.2[i] s=C5k d.1[i] d.2[i] s.2.2.2.1:=by simp[C1e,k1]
    rw[e]at w
    simp only[k1,zI,zB,h3 d.1[i] d.2[i] _ hx hr hs.2.2.1.1,zC,w,e]
    by_cases hz:(C5k d.1[i] d.2[i] s.2.2.2.1).2.1=0
    ·simp only[hz,zI,zT,zA,if_true]
    ·simp only[hz,zH,zU,zB,if_false];rfl
   by_cases k2:s.1=2
   ·have e:C1e d.1[i] d.2[i] s=C5l d.1[i] d.2[i] s.2.2.1 s.2.2.2.1:=by simp[C1e,k2]
    rw[e]at w
    simp only[k2,show¬(2:Int)=1 by decide,zH,zA,zI,zB,h4 d.1[i] d.2[i] _ _ hx hr hs.2.1.1 hs.2.2.1.1,zC,w,e]
    by_cases hz:(C5l d.1[i] d.2[i] s.2.2.1 s.2.2.2.1).2.1=0
    ·simp only[hz,zI,zT,zA,if_true]
    ·simp only[hz,zH,zU,zB,if_false];rfl
   by_cases k3:s.1=3
   ·have e:C1e d.1[i] d.2[i] s=C5j d.1[i] d.2[i] s.2.2.1:=by simp[C1e,k3]
    rw[e]at w
    simp only[k3,show¬(3:Int)=1 by decide,show¬(3:Int)=2 by decide,zH,zA,zI,zB,h5 d.1[i] d.2[i] _ hx hr,zC,w,e]
    by_cases hz:(C5j d.1[i] d.2[i] s.2.2.1).2.1=0
    ·simp only[hz,zI,zT,zA,if_true]
    ·simp only[hz,zH,zU,zB,if_false];rfl
   ·have e:C1e d.1[i] d.2[i] s=([],(0,())):=by simp[C1e,k1,k2,k3,k5]
    simp only[k1,k2,k3,zH,zA,zI,zT,e,if_true]
theorem C79:B9g 1048576 C38:=⟨⟨Nat.zero_le _,fun x hx=>by cases hx⟩,⟨Nat.zero_le _,fun x hx=>by cases hx⟩⟩
theorem F47 {d:B5z}{s:B3t}(hd:B9g 1048576 d)(hs:B8y 1048576 s)(ok:B69 d=true)(t:B25):B3x 1048576 (B75 d s t):=by
 obtain⟨hc,hl,_⟩:=B8u ok
 rcases C2c d.1 t.1 with c|⟨i,ei,hi⟩
 ·unfold B75
  rw[if_neg (by omega)];exact C0h
 ·have hi2:i<d.2.length:=by omega
  have hr:=hd.2.2 _ (zL hi2)
  unfold B75
  rw[if_pos (by omega),ei,zE,getD_at hi,getD_at hi2]
  split
  ·exact E1v (hd.1.2 _ (zL hi)) hr hs.2.2.2
  ·exact hr
theorem E0o {d:B5z}{s:B3t}(hd:B9g 1048576 d)(hs:B8y 1048576 s)(ok:B69 d=true):B9g 1048576 (C1c d s).1:=by
 obtain⟨hc,hl,_⟩:=B8u ok
 unfold C1c
 split
 ·exact C79
 rename_i h4
 split
 ·unfold C3h
  split
  ·have hsm:=E0n hd.1 hs.2.2.2
   refine⟨hsm,⟨by rw[List.length_map];exact hsm.1,fun r hr=>?_⟩⟩
   obtain⟨t,_,rfl⟩:=List.mem_map.mp hr
   exact F47 hd hs ok t
  ·exact C79
 ·rename_i k5
  rcases C2c d.1 s.2.1 with c|⟨i,ei,hi⟩
  ·exact absurd ⟨c,.inl k5⟩ h4
  have hi2:i<d.2.length:=by omega
  rw[ei,zE,getD_at hi,getD_at hi2]
  split
  ·refine⟨hd.1,⟨by rw[List.length_set];exact hd.2.1,fun r hr=>?_⟩⟩
   rcases List.mem_or_eq_of_mem_set hr with e|e
   ·exact hd.2.2 r e
   ·rw[e];exact F5k (hd.1.2 _ (zL hi)) (hd.2.2 _ (zL hi2)) hs
  ·exact C79
theorem E8f {l:B2i}(h6:l.length≤6)(ht:∀t∈l,B2d t=true)(hs:∀k (hk:k+1<l.length),C09 l[k].1 l[k+1].1=true):B73 l=true:=by
 simp only[B73,zD h6,zG1]
 refine(B4y _ _ _).mpr fun i hi=>?_
 simp only[zS,B4u,ht _ (zL hi),zG1,Bool.or_eq_true,zG]
 cases i with
 |zero=>exact .inl rfl
 |succ i=>
  right
  rw[Nat.add_sub_cancel,getD_at (show i<l.length by omega)]
  exact hs i hi
theorem F39 {l:B2i}(h:B73 l=true):l.Pairwise fun a b=>C09 a.1 b.1=true:=
 List.pairwise_iff_getElem.mpr fun i j hi hj hij=>D6k h i j hij hj
theorem D3i {l:B2i}(h6:l.length≤6)(ht:∀t∈l,B2d t=true)(hp:l.Pairwise fun a b=>C09 a.1 b.1=true):B73 l=true:=
 E8f h6 ht fun k hk=>List.pairwise_iff_getElem.mp hp k (k+1) (by omega) hk (by omega)
theorem E60 {t:B25}:∀{l:B2i},(l.Pairwise fun a b=>C09 a.1 b.1=true)→(∀y∈l,y.1≠t.1)→(B9f t l).Pairwise fun a b=>C09 a.1 b.1=true
 |[],_,_=>by simp[B9f]
 |x::l,h,hn=>by
  obtain⟨h1,h2⟩:=List.pairwise_cons.mp h
  simp only[B9f]
  split
  ·rename_i c
   refine List.pairwise_cons.mpr ⟨fun y hy=>?_,h⟩
   rcases List.mem_cons.mp hy with e|e
   ·rw[e];exact c
   ·exact D3u c (h1 y e)
  ·rename_i c
   refine List.pairwise_cons.mpr ⟨fun y hy=>?_,E60 h2 fun y hy=>hn y (zF _ hy)⟩
   rcases D02 _ _ _ hy with e|e
   ·rw[e]
    exact F00 (by simpa using c) fun e=>hn x (zM ..) e.symm
   ·exact h1 y e
theorem F1a {l:B2i}(h:l.Pairwise fun a b=>C09 a.1 b.1=true)(i:Nat):(B2t l i).Pairwise fun a b=>C09 a.1 b.1=true:=by
 refine h.sublist ?_
 unfold B2t
 rw[←List.eraseIdx_eq_take_drop_succ]
 exact List.eraseIdx_sublist ..
theorem F6s {l:B2i}(h:l.Pairwise fun a b=>C09 a.1 b.1=true){i:Nat}(hi:i<l.length){t:B25}(ht:t.1=l[i].1):(l.set i t).Pairwise fun a b=>C09 a.1 b.1=true:=by
 have h':=List.pairwise_iff_getElem.mp h
 have hn:∀j (hj:j<l.length),((l.set i t)[j]'(by simpa using hj)).1=l[j].1:=fun j hj=>by
  rw[List.getElem_set]
  split
  ·rename_i e;subst e;exact ht
  ·rfl
 refine List.pairwise_iff_getElem.mpr fun a b ha hb hab=>?_
 rw[hn a (by simpa using ha),hn b (by simpa using hb)]
 exact h' a b _ _ hab
theorem F2h {cs:B2x}(hu:∀i j (hi:i<cs.length) (hj:j<cs.length),cs[i].1=cs[j].1→i=j){k:Nat}(hk:k<cs.length):B2a cs cs[k].1=(k:Int):=by
 have hp:0≤B2a cs cs[k].1:=D0l ⟨cs[k],zL hk,by simp⟩
 rcases C06 cs cs[k].1 with c|⟨i,e,hi,e2⟩
 ·omega
 ·rw[e]
  have:=hu i k hi hk e2
  rw[this]
theorem E7m {x:B25}(hw:B3k x.1=true)(h1:1≤x.2.1.length)(h8:x.2.1.length≤8)(hk:1≤x.2.2.length)(hc:∀c∈x.2.1,B3p c=true)
  (hu:∀i j (hi:i<x.2.1.length) (hj:j<x.2.1.length),x.2.1[i].1=x.2.1[j].1→i=j) (hr:(runs (B4s x.2.1) x.2.2 (-1)).isSome=true):B2d x=true:=by
 simp only[B2d,hw,zD (And.intro h1 h8),zD hk,hr,Bool.and_true,zG1]
 refine(B4y _ _ _).mpr fun i hi=>?_
 rw[zS,hc _ (zL hi),F2h hu hi]
 simp
theorem F0c {cs cs':B2x}{f:ByteArray→ByteArray}{m:Int→Int}:∀{ks:B43} {last:Int},(runs (B4s cs) ks last).isSome=true→ -1≤last→
  (∀k∈ks,B2a cs' (f k)=m (B2a cs k)∧(cs'.getD (B2a cs' (f k)).toNat CZ).2.2.1=true)→(∀k∈ks,last<B2a cs k→m last<m (B2a cs k))→
  (∀a∈ks,∀b∈ks,B2a cs a<B2a cs b→m (B2a cs a)<m (B2a cs b))→(runs (B4s cs') (ks.map f) (m last)).isSome=true
 |[],_,_,_,_,_,_=>rfl
 |k::ks,last,h,hl,h1,h2,h3=>by
  simp only[runs]at h
  unfold B4s at h
  split at h
  ·rename_i c
   obtain⟨e1,e2⟩:=h1 k (zM ..)
   simp only[List.map_cons,runs]
   unfold B4s
   rw[if_pos ⟨by rw[e1];exact h2 k (zM ..) c.1,e2⟩]
   have h0:(-1:Int)≤B2a cs k:=by have:=c.1;omega
   have:=F0c (cs:=cs) (cs':=cs') (f:=f) (m:=m) (ks:=ks) (last:=B2a cs k) h h0 (fun a ha=>h1 a (zF _ ha))
    (fun a ha=>h3 k (zM ..) a (zF _ ha)) (fun a ha b hb=>h3 a (zF _ ha) b (zF _ hb))
   rw[←e1]at this
   exact this
  ·cases h
theorem F4v {cs:B2x}{c:B4j}{s:ByteArray}(h:0≤B2a cs s):B2a (cs++[c]) s=B2a cs s:=by
 have:∀(l:B2x) (k:Nat),0≤idxFrom (fun c:B4j=>decide (c.1=s)) l k→idxFrom (fun c:B4j=>decide (c.1=s)) (l++[c]) k=idxFrom (fun c:B4j=>decide (c.1=s)) l k:=by
  intro l
  induction l with
  |nil=>intro k h;simp[idxFrom]at h
  |cons x l ih=>
   intro k h
   simp only[List.cons_append,idxFrom]at h⊢
   by_cases e:x.1=s
   ·simp[e]
   ·simp only[e,zH]at h⊢
    have:=ih (k+1) (by simpa using h)
    simpa using this
 exact this cs 0 h
theorem C9z {x:B25}(h:B2d x=true){k:ByteArray}(hk:k∈x.2.2):∃p:Nat,B2a x.2.1 k=(p:Int)∧∃hp:p<x.2.1.length,x.2.1[p].1=k∧x.2.1[p].2.2.1=true:=by
 obtain⟨a1,a2,a3⟩:=(B90 h).1 k hk
 rcases C06 x.2.1 k with c|⟨p,e,hp,e2⟩
 ·omega
 ·refine⟨p,e,hp,e2,?_⟩
  rw[e,zE,getD_at hp]at a3
  exact a3
theorem C3e {x:B25}(h:B2d x=true):B3k x.1=true:=by
 simp only[B2d,zJ]at h
 exact h.1.1.1.1
theorem E24 {x:B25}(h:B2d x=true):1≤x.2.2.length:=by
 have:=D9s h
 cases hx:x.2.2 with
 |nil=>exact absurd hx this
 |cons a l=>simp
theorem F4b {x:B25}(h:B2d x=true):(runs (B4s x.2.1) x.2.2 (-1)).isSome=true:=by
 simp only[B2d,zJ]at h
 exact h.2
def D8x (x:B25)(d:B3a)(p:Int):Int:=if d.1=4∧B2a x.2.1 d.2.2.2.2.1<p then p - 1 else p
theorem F4w {cs:B2x}{d:B3a}(k5:d.1=5)(hto:B2a cs d.2.2.2.2.2<0)(s:ByteArray)(hs:0≤B2a cs s):B2a (cs.map (C0r d)) (B5o d s)=B2a cs s:=by
 have hno:∀c∈cs,c.1≠d.2.2.2.2.2:=fun c hc e=>by
  have:=D0l (p:=fun c:B4j=>decide (c.1=d.2.2.2.2.2)) (l:=cs) ⟨c,hc,by simp[e]⟩
  have h2:0≤B2a cs d.2.2.2.2.2:=this
  omega
 have hsn:s≠d.2.2.2.2.2:=fun e=>by rw[e]at hs;omega
 have:∀(l:B2x) (k:Nat),(∀c∈l,c.1≠d.2.2.2.2.2)→idxFrom (fun c:B4j=>decide (c.1=B5o d s)) (l.map (C0r d)) k=idxFrom (fun c:B4j=>decide (c.1=s)) l k:=by
  intro l
  induction l with
  |nil=>intro k _;rfl
  |cons c l ih=>
   intro k hl
   have hc:=hl c (zM ..)
   have e:decide ((C0r d c).1=B5o d s)=decide (c.1=s):=by
    rw[decide_eq_decide]
    unfold C0r B5o
    simp only[k5,true_and]
    by_cases a:c.1=d.2.2.2.2.1
    ·by_cases b:s=d.2.2.2.2.1
     ·rw[if_pos a,if_pos b];exact⟨fun _=>a.trans b.symm,fun _=>rfl⟩
     ·rw[if_pos a,if_neg b];exact⟨fun h=>absurd h.symm hsn,fun h=>absurd (h.symm.trans a) b⟩
    ·by_cases b:s=d.2.2.2.2.1
     ·rw[if_neg a,if_pos b];exact⟨fun h=>absurd h hc,fun h=>absurd (h.trans b) a⟩
     ·rw[if_neg a,if_neg b]
   simp only[List.map_cons,idxFrom,e,ih (k+1) fun c hc=>hl c (zF _ hc)]
 exact this cs 0 hno
theorem F0u {x:B25}{d:B3a}(h:B2d x=true)(hk:B39 d=true)(hf:B5u x d=0)(k1:¬d.1=1)(k2:¬d.1=2){k:ByteArray}(hm:k∈x.2.2):
  B2a (B3n x d).2.1 (B5o d k)=D8x x d (B2a x.2.1 k)∧((B3n x d).2.1.getD (B2a (B3n x d).2.1 (B5o d k)).toNat CZ).2.2.1=true:=by
 obtain⟨p,ep,hp,e1,e2⟩:=C9z h hm
 have hu:=D0j h
 have kinds:=C55 hk
 by_cases k3:d.1=3
 ·rw[D0g k3]
  have ek:B5o d k=k:=by simp[B5o,k3]
  rw[ek]
  dsimp only
  rw[F4v (by omega),ep]
  refine⟨by simp[D8x,k3],?_⟩
  rw[zE,getD_at (by simp;omega),List.getElem_append_left hp]
  exact e2
 by_cases k5:d.1=5
 ·have hto:B2a x.2.1 d.2.2.2.2.2<0:=by
   simp only[B5u,k5,show¬(5:Int)=3 by decide,show¬(5:Int)=4 by decide,if_false,if_true]at hf
   split at hf
   ·cases hf
   ·omega
  rw[C65 k5]
  dsimp only
  rw[F4w k5 hto k (by omega),ep]
  refine⟨by simp[D8x,k5],?_⟩
  rw[zE,getD_at (by simpa using hp),List.getElem_map]
  unfold C0r
  split<;>exact e2
 have k4:d.1=4:=by rcases kinds with h|h|h|h|h<;>first|exact h|exact absurd h (by assumption)
 obtain⟨g,eg,hg⟩:=C8w k4 hf
 have hgn:x.2.1[g].1=d.2.2.2.2.1:=by
  rcases C06 x.2.1 d.2.2.2.2.1 with c|⟨q,eq,hq,e⟩
  ·omega
  ·have:q=g:=by omega
   subst this;exact e
 have hne:p≠g:=by
  rintro rfl
  simp only[B5u,k4,show¬(4:Int)=3 by decide,if_false,if_true]at hf
  rw[if_neg (by omega)]at hf
  split at hf
  ·cases hf
  ·rename_i hno
   exact hno ((F2s _ _).mpr (by rw[←hgn,e1];exact hm))
 have hbut:B8t x.2.1 d.2.2.2.2.1=B2t x.2.1 g:=by
  rcases C8o d.2.2.2.2.1 x.2.1 0 with⟨h1,_⟩|⟨m,h1,h2,h3⟩
  ·have:B2a x.2.1 d.2.2.2.2.1= -1:=h1
   omega
  ·have hmg:m=g:=by
    have:B2a x.2.1 d.2.2.2.2.1=((0+m:Nat):Int):=h2
    omega
   rw[h3,hmg]
   unfold B2t
   congr 1
   refine List.filter_eq_self.mpr fun c hc=>?_
   obtain⟨j,hj,rfl⟩:=List.mem_iff_getElem.mp hc
   rw[List.getElem_drop]
   simp only[List.length_drop]at hj
   rw[zK];rfl
   intro e
   have:=hu (g+1+j) g (by omega) hg (e.trans hgn.symm)
   omega
 rw[D0h k4]
 have ek:B5o d k=k:=by simp[B5o,k4]
 rw[ek]
 dsimp only
 rw[hbut]
 have hw:∀j (hj:j<(B2t x.2.1 g).length),∃h,(B2t x.2.1 g)[j]=x.2.1[(if j<g then j else j+1)]'h:=fun j hj=>by
  obtain⟨h,e⟩:=B91 hj
  exact⟨h,e⟩
 have hlen:(B2t x.2.1 g).length=x.2.1.length - 1:=by simp[B2t];omega
 have hu':∀i j (hi:i<(B2t x.2.1 g).length) (hj:j<(B2t x.2.1 g).length),(B2t x.2.1 g)[i].1=(B2t x.2.1 g)[j].1→i=j:=by
  intro i j hi hj e
  obtain⟨a1,a2⟩:=hw i hi
  obtain⟨b1,b2⟩:=hw j hj
  rw[a2,b2]at e
  have:=hu _ _ _ _ e
  split at this<;>split at this<;>omega
 obtain⟨q,hq,hq2⟩:∃q,q<(B2t x.2.1 g).length∧(if q<g then q else q+1)=p:=by
  by_cases c:p<g
  ·exact⟨p,by omega,by rw[if_pos c]⟩
  ·exact⟨p - 1,by omega,by rw[if_neg (by omega)];omega⟩
 obtain⟨a1,a2⟩:=hw q hq
 have hqe:(B2t x.2.1 g)[q]=x.2.1[p]:=by rw[a2];congr 1
 have e5:B2a (B2t x.2.1 g) k=(q:Int):=by
  have:=F2h hu' hq
  rw[hqe,e1]at this
  exact this
 rw[e5]
 refine⟨?_,by rw[zE,getD_at hq,hqe];exact e2⟩
 unfold D8x
 rw[eg,ep]
 split at hq2
 ·rw[if_neg (by rintro⟨_,h⟩;omega)];omega
 ·rw[if_pos ⟨k4,by omega⟩];omega
theorem E9r {x:B25}{d:B3a}{a b:Int}(ha:d.1=4→a≠B2a x.2.1 d.2.2.2.2.1)(h:a<b):D8x x d a<D8x x d b:=by
 unfold D8x
 by_cases k4:d.1=4
 ·have:=ha k4
  by_cases c1:B2a x.2.1 d.2.2.2.2.1<a
  ·rw[if_pos ⟨k4,c1⟩,if_pos ⟨k4,by omega⟩];omega
  ·rw[if_neg (fun h=>c1 h.2)]
   split
   ·omega
   ·exact h
 ·rw[if_neg (fun h=>k4 h.1),if_neg (fun h=>k4 h.1)];exact h
theorem D3t {x:B25}{d:B3a}(h:B2d x=true)(hf:B5u x d=0)(k4:d.1=4){k:ByteArray}(hm:k∈x.2.2):B2a x.2.1 k≠B2a x.2.1 d.2.2.2.2.1:=by
 intro e
 obtain⟨p,ep,hp,e1,_⟩:=C9z h hm
 rcases C06 x.2.1 d.2.2.2.2.1 with c|⟨q,eq,hq,e2⟩
 ·omega
 have hpq:p=q:=by omega
 subst hpq
 simp only[B5u,k4,show¬(4:Int)=3 by decide,if_false,if_true]at hf
 rw[if_neg (by omega)]at hf
 split at hf
 ·cases hf
 ·rename_i hno
  exact hno ((F2s _ _).mpr (by rw[←e2,e1];exact hm))
theorem F4e {d:B3a}(hk:B39 d=true)(k3:d.1=3):∃c,d.2.2.1=[c]∧B3p c=true∧(c.2.2.2.1=true∨c.2.2.1=false):=by
 obtain⟨c,hcs,hc⟩:=C2t hk k3
 refine⟨c,hcs,hc,?_⟩
 simp only[B39,k3,show¬(3:Int)=1 by decide,show¬(3:Int)=2 by decide,if_false,if_true,hcs,zJ,Bool.or_eq_true,Bool.not_eq_true']at hk
 exact hk.2.1.1.1.2
theorem F83 {d:B3a}(hk:B39 d=true)(k5:d.1=5):B3k d.2.2.2.2.2=true:=by
 simp only[B39,k5,show¬(5:Int)=1 by decide,show¬(5:Int)=2 by decide,show¬(5:Int)=3 by decide,show¬(5:Int)=4 by decide,if_false,if_true,zJ]at hk
 exact hk.2.2
theorem E9s {x:B25}{d:B3a}(h:B2d x=true)(hk:B39 d=true)(hf:B5u x d=0)(k1:¬d.1=1)(k2:¬d.1=2):B2d (B3n x d)=true:=by
 have hu:=D0j h
 obtain⟨_,hcol,h8,hl1⟩:=B90 h
 have hkeys:(B3n x d).2.2=x.2.2.map (B5o d):=rfl
 have hrun:(runs (B4s (B3n x d).2.1) (B3n x d).2.2 (-1)).isSome=true:=by
  rw[hkeys]
  have hneg:D8x x d (-1)= -1:=by
   unfold D8x
   split
   ·rename_i c
    obtain⟨g,eg,hg⟩:=C8w c.1 hf
    omega
   ·rfl
  have:=F0c (cs:=x.2.1) (cs':=(B3n x d).2.1) (f:=B5o d) (m:=D8x x d) (ks:=x.2.2) (last:= -1) (F4b h) (by omega) (fun k hm=>F0u h hk hf k1 k2 hm)
   (fun k hm hlt=>E9r (fun k4=>by obtain⟨g,eg,hg⟩:=C8w k4 hf;omega) hlt)
   (fun a ha b hb hlt=>E9r (fun k4=>D3t h hf k4 ha) hlt)
  rw[hneg]at this
  exact this
 have hk1:1≤(B3n x d).2.2.length:=by rw[hkeys,List.length_map];exact E24 h
 by_cases k3:d.1=3
 ·obtain⟨c,hcs,hc,_⟩:=F4e hk k3
  have hnew:∀y∈x.2.1,y.1≠c.1:=fun y hy e=>by
   have:0≤B2a x.2.1 c.1:=D0l ⟨y,hy,by simp[e]⟩
   simp only[B5u,k3,if_true,hcs,List.getD_cons_zero,if_pos this]at hf
   cases hf
  have hlt:x.2.1.length≠8:=fun e=>by
   simp only[B5u,k3,if_true]at hf
   split at hf
   ·cases hf
   ·first
     |(cases hf;done)
     |(rw[if_pos e]at hf;cases hf)
  have e:(B3n x d).2.1=x.2.1++[c]:=by rw[D0g k3,hcs];rfl
  refine E7m (show B3k (B3n x d).1=true from C3e (x:=x) h) (by rw[e];simp) (by rw[e];simp;omega) hk1 (fun y hy=>?_) (fun i j hi hj hij=>?_) hrun
  ·rw[e]at hy
   rcases zY.mp hy with hy|hy
   ·exact hcol y hy
   ·rw[zF1.mp hy];exact hc
  ·simp only[e,List.length_append,List.length_singleton]at hi hj
   simp only[e]at hij
   rw[List.getElem_append,List.getElem_append]at hij
   by_cases ci:i<x.2.1.length
   ·by_cases cj:j<x.2.1.length
    ·rw[dif_pos ci,dif_pos cj]at hij;exact hu i j ci cj hij
    ·rw[dif_pos ci,dif_neg cj]at hij
     simp only[List.getElem_singleton]at hij
     exact absurd hij (hnew _ (zL ci))
   ·by_cases cj:j<x.2.1.length
    ·rw[dif_neg ci,dif_pos cj]at hij
     simp only[List.getElem_singleton]at hij
     exact absurd hij.symm (hnew _ (zL cj))
    ·omega
 by_cases k5:d.1=5
 ·have hto:B2a x.2.1 d.2.2.2.2.2<0:=by
   simp only[B5u,k5,show¬(5:Int)=3 by decide,show¬(5:Int)=4 by decide,if_false,if_true]at hf
   split at hf
   ·cases hf
   ·omega
  have hno:∀c∈x.2.1,c.1≠d.2.2.2.2.2:=fun c hc e=>by
   have h2:0≤B2a x.2.1 d.2.2.2.2.2:=D0l ⟨c,hc,by simp[e]⟩
   omega
  have e:(B3n x d).2.1=x.2.1.map (C0r d):=by rw[C65 k5]
  refine E7m (show B3k (B3n x d).1=true from C3e (x:=x) h) (by rw[e];simpa using hl1) (by rw[e];simpa using h8) hk1 (fun y hy=>?_) (fun i j hi hj hij=>?_) hrun
  ·rw[e]at hy
   obtain⟨c,hc,rfl⟩:=List.mem_map.mp hy
   have:=hcol c hc
   unfold C0r
   split
   ·simp only[B3p,zJ]at this⊢
    exact⟨⟨F83 hk k5,this.1.2⟩,this.2⟩
   ·exact this
  ·simp only[e,List.length_map]at hi hj
   simp only[e,List.getElem_map]at hij
   refine hu i j hi hj ?_
   unfold C0r at hij
   simp only[k5,true_and]at hij
   split at hij<;>split at hij
   ·rename_i a b;exact a.trans b.symm
   ·exact absurd hij.symm (hno _ (zL hj))
   ·exact absurd hij (hno _ (zL hi))
   ·exact hij
 have k4:d.1=4:=by rcases C55 hk with h|h|h|h|h<;>first|exact h|exact absurd h (by assumption)
 have e:(B3n x d).2.1=B8t x.2.1 d.2.2.2.2.1:=by rw[D0h k4]
 have hsub:(B8t x.2.1 d.2.2.2.2.1).Sublist x.2.1:=List.filter_sublist
 refine E7m (show B3k (B3n x d).1=true from C3e (x:=x) h) ?_ (by rw[e];exact Nat.le_trans hsub.length_le h8) hk1 (fun y hy=>hcol y (hsub.subset (by rw[←e];exact hy))) (fun i j hi hj hij=>?_) hrun
 · -- a key's column stays
  have hks:=E24 h
  obtain⟨k,hm⟩:∃k,k∈x.2.2:=⟨x.2.2[0],zL (by omega)⟩
  obtain⟨a1,_⟩:=F0u h hk hf k1 k2 hm
  obtain⟨p,ep,hp,_⟩:=C9z h hm
  have hn:=D3t h hf k4 hm
  have h0:0≤B2a (B3n x d).2.1 (B5o d k):=by
   rw[a1]
   unfold D8x
   obtain⟨g,eg,hg⟩:=C8w k4 hf
   split<;>omega
  rcases C06 (B3n x d).2.1 (B5o d k)with c|⟨q,eq,hq,_⟩
  ·omega
  ·omega
 ·have hp:x.2.1.Pairwise fun a b=>a.1≠b.1:=List.pairwise_iff_getElem.mpr fun a b ha hb hab ee=>by
   have:=hu a b ha hb ee;omega
  have hp':((B3n x d).2.1).Pairwise fun a b=>a.1≠b.1:=by rw[e];exact hp.sublist hsub
  have h2:=List.pairwise_iff_getElem.mp hp'
  rcases zE1 i j with c|c
  ·exact absurd hij (h2 i j hi hj c)
  ·rcases zE1 j i with c2|c2
   ·exact absurd hij.symm (h2 j i hj hi c2)
   ·omega
theorem C7h {cs:B2x}{r:B2g}:B4q cs r=true↔r.length=cs.length∧∀i (h1:i<cs.length) (h2:i<r.length),B9j cs[i] r[i]=true:=by
 simp only[B4q,zJ,zG]
 constructor
 ·rintro⟨h1,h2⟩
  refine⟨h1,fun i hi hi2=>?_⟩
  have:=C3g h2 hi
  rwa[getD_at hi2]at this
 ·rintro⟨h1,h2⟩
  refine⟨h1,(B4y _ _ _).mpr fun i hi=>?_⟩
  rw[zS,getD_at (show i<r.length by omega)]
  exact h2 i hi (by omega)
theorem F10 {c:B4j}(hc:B3p c=true)(hn:c.2.2.2.1=true∨c.2.2.1=false):B9j c c.2.2.2.2=true:=by
 simp only[B3p,zJ,zG]at hc
 obtain⟨⟨_,ht⟩,hd⟩:=hc
 unfold B9j
 by_cases hh:c.2.2.2.1=true
 ·rw[if_pos hh]at hd
  simp only[zJ,Bool.or_eq_true,zG]at hd
  simp only[hd.1,zG1]
  rcases hd.2 with e|⟨e,e2⟩
  ·rw[if_neg (by omega)];simpa using e
  ·rw[if_pos e];exact e2
 ·rw[if_neg hh]at hd
  have hnull:c.2.2.2.2=C3x:=by simpa using hd
  rw[hnull]
  have hz:c.2.2.1=false:=hn.resolve_left hh
  rw[hz]
  simp[C3x,B46]
theorem F2e {x:B25}(h:B2d x=true){s:ByteArray}{g:Nat}(eg:B2a x.2.1 s=(g:Int))(hg:g<x.2.1.length):B8t x.2.1 s=B2t x.2.1 g:=by
 have hu:=D0j h
 have hgn:x.2.1[g].1=s:=by
  rcases C06 x.2.1 s with c|⟨q,eq,hq,e⟩
  ·omega
  ·have:q=g:=by omega
   subst this;exact e
 rcases C8o s x.2.1 0 with⟨h1,_⟩|⟨m,h1,h2,h3⟩
 ·have:B2a x.2.1 s= -1:=h1
  omega
 ·have hmg:m=g:=by
   have:B2a x.2.1 s=((0+m:Nat):Int):=h2
   omega
  rw[h3,hmg]
  unfold B2t
  congr 1
  refine List.filter_eq_self.mpr fun c hc=>?_
  obtain⟨j,hj,rfl⟩:=List.mem_iff_getElem.mp hc
  rw[List.getElem_drop]
  simp only[List.length_drop]at hj
  rw[zK];rfl
  intro e
  have:=hu (g+1+j) g (by omega) hg (e.trans hgn.symm)
  omega
theorem F6x {x:B25}{d:B3a}{r:B4x}(hk:B39 d=true)(hf:B5u x d=0)(k1:¬d.1=1)(k2:¬d.1=2)(h:B2d x=true)(hr:B4q x.2.1 r=true):B4q (B3n x d).2.1 (B8x x d r)=true:=by
 obtain⟨hl,hfit⟩:=C7h.mp hr
 by_cases k3:d.1=3
 ·obtain⟨c,hcs,hc,hn⟩:=F4e hk k3
  have e:B8x x d r=r++[c.2.2.2.2]:=by simp[B8x,k3,hcs]
  have e2:(B3n x d).2.1=x.2.1++[c]:=by rw[D0g k3,hcs];rfl
  rw[e,e2]
  refine C7h.mpr ⟨by simp[hl],fun i h1 h2=>?_⟩
  rw[List.getElem_append,List.getElem_append]
  by_cases ci:i<x.2.1.length
  ·rw[dif_pos ci,dif_pos (by omega)];exact hfit i ci (by omega)
  ·rw[dif_neg ci,dif_neg (by omega)]
   simp only[List.getElem_singleton]
   exact F10 hc hn
 by_cases k5:d.1=5
 ·have e:B8x x d r=r:=by simp[B8x,k5]
  have e2:(B3n x d).2.1=x.2.1.map (C0r d):=by rw[C65 k5]
  rw[e,e2]
  refine C7h.mpr ⟨by simp[hl],fun i h1 h2=>?_⟩
  rw[List.getElem_map]
  have:=hfit i (by simpa using h1) h2
  unfold C0r
  split
  ·exact this
  ·exact this
 have k4:d.1=4:=by rcases C55 hk with h|h|h|h|h<;>first|exact h|exact absurd h (by assumption)
 obtain⟨g,eg,hg⟩:=C8w k4 hf
 have e:B8x x d r=B2t r g:=by simp[B8x,k4,eg]
 have e2:(B3n x d).2.1=B2t x.2.1 g:=by rw[D0h k4];exact F2e h eg hg
 rw[e,e2]
 have l1:(B2t x.2.1 g).length=x.2.1.length - 1:=by simp[B2t];omega
 have l2:(B2t r g).length=r.length - 1:=by simp[B2t];omega
 refine C7h.mpr ⟨by omega,fun i h1 h2=>?_⟩
 obtain⟨a1,a2⟩:=B91 h1
 obtain⟨b1,b2⟩:=B91 h2
 rw[a2,b2]
 exact hfit _ a1 b1
theorem F0a {x:B25}{d:B3a}{r:B4x}(hk:B39 d=true)(hf:B5u x d=0)(k1:¬d.1=1)(k2:¬d.1=2)(h:B2d x=true)(hr:B4q x.2.1 r=true):B2b (B3n x d).2.1 (B3n x d).2.2 (B8x x d r)=B2b x.2.1 x.2.2 r:=by
 obtain⟨hl,_⟩:=C7h.mp hr
 unfold B2b
 rw[show(B3n x d).2.2=x.2.2.map (B5o d)from rfl,List.map_map]
 refine List.map_congr_left fun k hm=>?_
 simp only[Function.comp]
 obtain⟨a1,_⟩:=F0u h hk hf k1 k2 hm
 obtain⟨p,ep,hp,_⟩:=C9z h hm
 rw[a1,ep]
 by_cases k4:d.1=4
 ·obtain⟨g,eg,hg⟩:=C8w k4 hf
  have hn:=D3t h hf k4 hm
  have e:B8x x d r=B2t r g:=by simp[B8x,k4,eg]
  have l2:(B2t r g).length=r.length - 1:=by simp[B2t];omega
  rw[e]
  unfold D8x
  rw[eg]
  by_cases c:g<p
  ·rw[if_pos ⟨k4,by omega⟩]
   have hq:p - 1<(B2t r g).length:=by omega
   rw[show((p:Int) - 1).toNat=p - 1 by omega,getD_at hq,zE,getD_at (show p<r.length by omega)]
   obtain⟨b1,b2⟩:=B91 hq
   rw[b2]
   congr 1
   rw[if_neg (by omega)];omega
  ·rw[if_neg (by rintro⟨_,h⟩;omega)]
   have hq:p<(B2t r g).length:=by omega
   rw[zE,getD_at hq,getD_at (show p<r.length by omega)]
   obtain⟨b1,b2⟩:=B91 hq
   rw[b2]
   congr 1
   rw[if_pos (by omega)]
 ·have ec:D8x x d (p:Int)=(p:Int):=by simp[D8x,k4]
  rw[ec,zE]
  by_cases k3:d.1=3
  ·have e:B8x x d r=r++[(d.2.2.1.getD 0 CZ).2.2.2.2]:=by simp[B8x,k3]
   rw[e,getD_at (show p<(r++[(d.2.2.1.getD 0 CZ).2.2.2.2]).length by simp;omega),List.getElem_append_left (by omega),getD_at (show p<r.length by omega)]
  ·have e:B8x x d r=r:=by simp[B8x,k3,k4]
   rw[e]
theorem F46 {x:B25}{l:B2q}{d:B3a}(hr:B3b x l=true)(hk:B39 d=true)(hf:B5u x d=0)(k1:¬d.1=1)(k2:¬d.1=2):B3b (B3n x d) (l.map (B8x x d))=true:=by
 obtain⟨ht,h60,hin⟩:=B56 hr
 refine C80 (E9s ht hk hf k1 k2) (by rw[List.length_map];exact h60) (fun r hm=>?_) fun k hk'=>?_
 ·obtain⟨r0,h0,rfl⟩:=List.mem_map.mp hm
  exact F6x hk hf k1 k2 ht (hin r0 h0)
 ·have hk2:k+1<l.length:=by simpa using hk'
  rw[List.getElem_map,List.getElem_map,F0a hk hf k1 k2 ht (hin _ (zL _)),F0a hk hf k1 k2 ht (hin _ (zL _))]
  exact C6g hr k (k+1) (by omega) hk2
theorem F06 {x:B25}{l:B2q}{r:B4x}(h:B3b x l=true)(hlen:l.length<60)(hr:B4q x.2.1 r=true)(hno:∀y∈l,B2b x.2.1 x.2.2 y≠B2b x.2.1 x.2.2 r):B3b x (B9i x l r)=true:=by
 obtain⟨ht,h60,hin⟩:=B56 h
 have hp:l.Pairwise fun a b=>B3j (B2b x.2.1 x.2.2 a) (B2b x.2.1 x.2.2 b)=true:=List.pairwise_iff_getElem.mpr fun i j hi hj hij=>C6g h i j hij hj
 have hv:∀y,B4q x.2.1 y=true→F30 (B2b x.2.1 x.2.2 y):=fun y hy=>C3p ht hy
 have hlk:∀a b:B4x,(B2b x.2.1 x.2.2 a).length=(B2b x.2.1 x.2.2 b).length:=fun a b=>by rw[B5k,B5k]
 have hdl:∀y∈l.dropWhile (C3q x r),B3j (B2b x.2.1 x.2.2 r) (B2b x.2.1 x.2.2 y)=true:=by
  cases hd:l.dropWhile (C3q x r)with
  |nil=>intro y hy;cases hy
  |cons z t=>
   have hsub:(z::t).Sublist l:=by rw[←hd];exact List.dropWhile_sublist _
   have hzl:z∈l:=hsub.subset (zM ..)
   have hz:C3q x r z=false:=by
    have:=List.head_dropWhile_not (C3q x r) (by rw[hd];simp:l.dropWhile (C3q x r)≠[])
    simpa[hd]using this
   have hrz:B3j (B2b x.2.1 x.2.2 r) (B2b x.2.1 x.2.2 z)=true:=by
    have:=(C8v (hlk z r) (hv z (hin z hzl)) (hv r hr)).2
    rw[zK (hno z hzl)]at this
    have hz':B3j (B2b x.2.1 x.2.2 z) (B2b x.2.1 x.2.2 r)=false:=hz
    rw[hz',Bool.false_or]at this
    exact this
   intro y hy
   rcases List.mem_cons.mp hy with e|e
   ·rw[e];exact hrz
   ·have hpz:=(List.pairwise_cons.mp (hp.sublist hsub)).1 y e
    have hyl:y∈l:=hsub.subset (zF _ e)
    exact C5s (hlk r z) (hlk z y) (hv r hr) (hv z (hin z hzl)) (hv y (hin y hyl)) hrz hpz
 have htk:∀y∈l.takeWhile (C3q x r),B3j (B2b x.2.1 x.2.2 y) (B2b x.2.1 x.2.2 r)=true:=fun y hy=>by
  have:=List.all_takeWhile (p:=C3q x r) (l:=l)
  exact List.all_eq_true.mp this y hy
 have hpp:(B9i x l r).Pairwise fun a b=>B3j (B2b x.2.1 x.2.2 a) (B2b x.2.1 x.2.2 b)=true:=by
  unfold B9i
  rw[List.append_assoc]
  refine List.pairwise_append.mpr ⟨hp.sublist (List.takeWhile_sublist _),?_,fun a ha b hb=>?_⟩
  ·refine List.pairwise_cons.mpr ⟨fun y hy=>hdl y hy,hp.sublist (List.dropWhile_sublist _)⟩
  ·rcases List.mem_cons.mp hb with e|e
   ·rw[e];exact htk a ha
   ·have hal:a∈l:=(List.takeWhile_sublist _).subset ha
    have hbl:b∈l:=(List.dropWhile_sublist _).subset e
    exact C5s (hlk a r) (hlk r b) (hv a (hin a hal)) (hv r hr) (hv b (hin b hbl)) (htk a ha) (hdl b e)
 refine C80 ht (by rw[E5x];omega) (fun y hy=>?_) fun k hk=>List.pairwise_iff_getElem.mp hpp k (k+1) (by omega) hk (by omega)
 rcases E5y hy with e|e
 ·exact hin y e
 ·rw[e];exact hr
theorem E62 {x:B25}(h:B2d x=true):B3b x []=true:=by simp[B3b,h,B44]
theorem F58 {x:B25}{l:B2q}{key:B2g}(h:0≤B4v x l key):(B4v x l key).toNat<l.length:=by
 obtain⟨_,b2⟩:=C1m (fun r:B4x=>decide (B2b x.2.1 x.2.2 r=key)) l
 have:B4v x l key<(l.length:Int):=b2
 omega
theorem F5j {x:B25}{l:B2q}{s:B3t}(h:B3b x l=true)(k5:¬s.1=5)(hz:(C1e x l s).2.1=0):B3b x (C1e x l s).1=true:=by
 unfold C1e at hz⊢
 split
 ·rename_i k1
  rw[if_pos k1]at hz
  unfold C5k at hz⊢
  rw[if_pos h]at hz⊢
  by_cases hr:B4q x.2.1 s.2.2.2.1=true
  ·rw[if_pos hr]at hz⊢
   by_cases c:0≤B4v x l (B2b x.2.1 x.2.2 s.2.2.2.1)
   ·rw[if_pos c]at hz;cases hz
   ·rw[if_neg c]at hz⊢
    by_cases c2:l.length=60
    ·rw[if_pos c2]at hz;cases hz
    ·rw[if_neg c2]
     exact F06 h (by have:=(B56 h).2.1;omega) hr (E48 c)
  ·rw[if_neg hr]at hz;cases hz
 rename_i k1
 rw[if_neg k1]at hz
 split
 ·rename_i k2
  rw[if_pos k2]at hz
  unfold C5l at hz⊢
  rw[if_pos h]at hz⊢
  by_cases hr:B4q x.2.1 s.2.2.2.1=true
  ·rw[if_pos hr]at hz⊢
   by_cases c:C7l x s.2.2.1=true∧0≤B4v x l s.2.2.1
   ·rw[if_pos c]at hz⊢
    by_cases c2:0≤B4v x (B2t l (B4v x l s.2.2.1).toNat) (B2b x.2.1 x.2.2 s.2.2.2.1)
    ·rw[if_pos c2]at hz;cases hz
    ·rw[if_neg c2]
     have hi:=F58 c.2
     refine F06 (C7b h _) ?_ hr (E48 c2)
     have:=(B56 h).2.1
     simp[B2t];omega
   ·rw[if_neg c]at hz;cases hz
  ·rw[if_neg hr]at hz;cases hz
 rename_i k2
 rw[if_neg k2]at hz
 split
 ·rename_i k3
  rw[if_pos k3]at hz
  unfold C5j at hz⊢
  rw[if_pos h]at hz⊢
  split
  ·exact C7b h _
  ·rename_i c
   rw[if_neg c]at hz;cases hz
 ·exact E62 (B56 h).1
theorem F7y {c:B2i}{q:B71}(hc:B73 c=true)(hl:q.length=c.length)(hr:∀i (h1:i<c.length) (h2:i<q.length),B3b c[i] q[i]=true):B69 (c,q)=true:=by
 simp only[B69,hc,hl,zI,zG1]
 refine(B4y _ _ _).mpr fun i hi=>?_
 rw[zS,getD_at (show i<q.length by omega)]
 exact hr i hi (by omega)
theorem E5b {d:B5z}{s:B3t}(ok:B69 d=true)(sk:B3l s=true)(hz:(C1c d s).2.1=0):B69 (C1c d s).1=true:=by
 obtain⟨hc,hl,hrow⟩:=B8u ok
 have hcats:=C3i hc
 unfold C1c at hz⊢
 by_cases h4:tAt d.1 s.2.1<0∧(s.1≠5∨s.2.2.2.2.1≠1)
 ·rw[if_pos h4]at hz;cases hz
 rw[if_neg h4]at hz⊢
 by_cases k5:s.1=5
 ·rw[if_pos k5]at hz⊢
  obtain⟨dk,htb⟩:=F77 sk k5
  unfold C3h at hz⊢
  by_cases ha:(B4f d.1 s.2.2.2.2).2.1=0
  rotate_left
  ·rw[if_neg ha]at hz
   have:=(D6l d.1 s.2.2.2.2).1
   simp only at hz
   omega
  rw[if_pos ha]
  have hcode:C2i d.1 s.2.2.2.2=0:=by
   simp only[B4f,hc,dk,and_self,if_true]at ha
   by_cases h:C2i d.1 s.2.2.2.2=0
   ·exact h
   ·rw[if_neg h]at ha;exact absurd ha h
  have hcat:(B4f d.1 s.2.2.2.2).1=B81 d.1 s.2.2.2.2:=by simp[B4f,hc,dk,hcode]
  rw[hcat]
  have hp:=F39 hc
  have hold:∀j (hj:j<d.1.length),tAt d.1 s.2.1≠(j:Int)→B3b d.1[j] (B75 d s d.1[j])=true:=fun j hj hne=>by
   rw[C7z ok s hj rfl,if_neg]
   ·exact hrow j hj (by omega)
   ·intro e
    have:=F49 hc hj
    rw[e]at this
    exact hne this
  have key:B73 (B81 d.1 s.2.2.2.2)=true∧∀t∈B81 d.1 s.2.2.2.2,B3b t (B75 d s t)=true:=by
   by_cases k1:s.2.2.2.2.1=1
   ·have hno:¬0≤tAt d.1 s.2.1:=fun h=>by
     simp only[C2i,k1,if_true]at hcode
     rw[htb]at h
     rw[if_pos h]at hcode;cases hcode
    have h6:d.1.length≠6:=fun e=>by
     simp only[C2i,k1,if_true]at hcode
     rw[htb]at hno
     rw[if_neg hno,if_pos e]at hcode;cases hcode
    have hmade:=E44 dk k1
    have hn:∀t∈d.1,t.1≠s.2.2.2.2.2.1:=fun t ht e=>hno (D9j.mpr ⟨t,ht,e.trans htb.symm⟩)
    simp only[B81,k1,if_true]
    refine⟨D3i (by rw[E17];have:=hcats.1;omega) (fun t ht=>?_) (E60 hp hn),fun t ht=>?_⟩
    ·rcases D02 _ _ _ ht with e|e
     ·rw[e];exact hmade
     ·exact hcats.2 t e
    ·rcases D02 _ _ _ ht with e|e
     ·rw[e]
      unfold B75
      rw[if_neg (by rw[←htb];exact hno)]
      exact E62 hmade
     ·obtain⟨j,hj,rfl⟩:=List.mem_iff_getElem.mp e
      exact hold j hj (by omega)
   obtain⟨i,ei,hi,hf⟩:=D0e hcode k1
   rw[←htb]at ei
   by_cases k2:s.2.2.2.2.1=2
   ·simp only[B81,k2,show¬(2:Int)=1 by decide,if_false,if_true]
    rw[←htb,ei,zE]
    refine⟨D3i (Nat.le_trans (C3u _ _) hcats.1) (fun t ht=>hcats.2 t (C3v ht)) (F1a hp i),fun t ht=>?_⟩
    obtain⟨k,hk,rfl⟩:=List.mem_iff_getElem.mp ht
    obtain⟨a1,a2⟩:=B91 hk
    rw[a2]
    refine hold _ a1 ?_
    rw[ei]
    intro e
    have:=Int.ofNat_inj.mp e
    split at this<;>omega
   ·have hrd:=F46 (hrow i hi (by omega)) dk hf k1 k2
    simp only[B81,k1,k2,if_false]
    rw[←htb,ei,zE,getD_at hi]
    have hname:(B3n d.1[i] s.2.2.2.2).1=d.1[i].1:=rfl
    refine⟨D3i (by rw[List.length_set];exact hcats.1) (fun t ht=>?_) (F6s hp hi hname),fun t ht=>?_⟩
    ·rcases List.mem_or_eq_of_mem_set ht with e|e
     ·exact hcats.2 t e
     ·rw[e];exact E9s (hcats.2 _ (zL hi)) dk hf k1 k2
    ·obtain⟨j,hj,rfl⟩:=List.mem_iff_getElem.mp ht
     have hj':j<d.1.length:=by simpa using hj
     rw[List.getElem_set]
     split
     ·rename_i e;subst e
      have hni:d.1[i].1=s.2.1:=by
       obtain⟨h,e⟩:=D0k (fun t:B25=>decide (t.1=s.2.1)) d.1 0 i (by rw[zS];exact ei)
       rwa[zG]at e
      rw[C7z ok s hi hname,if_pos hni]
      have:(B8q d.1[i] (d.2[i]'(by omega)) s.2.2.2.2).1=(d.2[i]'(by omega)).map (B8x d.1[i] s.2.2.2.2):=by
       unfold B8q
       rw[if_pos ⟨hrow i hi (by omega),dk,by rw[hni];exact htb.symm,k1⟩,if_pos hf,if_neg k2]
      rw[this]
      exact hrd
     ·rename_i e
      exact hold j hj' (by rw[ei];intro h;exact e (Int.ofNat_inj.mp h))
  refine F7y key.1 (by simp) fun i h1 h2=>?_
  rw[List.getElem_map]
  exact key.2 _ (zL h1)
 ·rw[if_neg k5]at hz⊢
  rcases C2c d.1 s.2.1 with c|⟨i,ei,hi⟩
  ·exact absurd ⟨c,.inl k5⟩ h4
  have hi2:i<d.2.length:=by omega
  rw[ei,zE,getD_at hi,getD_at hi2]at hz⊢
  by_cases hq:(C1e d.1[i] d.2[i] s).2.1=0
  rotate_left
  ·rw[if_neg hq]at hz
   have:=(E0r d.1[i] d.2[i] s).1
   simp only at hz
   omega
  rw[if_pos hq]
  refine F7y hc (by rw[List.length_set];exact hl) fun j h1 h2=>?_
  rw[List.getElem_set]
  split
  ·rename_i e;subst e
   exact F5j (hrow i hi hi2) k5 hq
  ·exact hrow j h1 (by simpa using h2)
def C39 (s:ByteArray):Prop:=∀x∈sI s,x≠10
theorem F6p {a b:ByteArray}(h1:C39 a)(h2:C39 b):C39 (a++b):=by
 intro x hx
 rw[C4m]at hx
 rcases zY.mp hx with hx|hx
 ·exact h1 x hx
 ·exact h2 x hx
theorem F03 {L:List ByteArray}(h:∀w∈L,C39 w):C39 (B8p L):=by
 cases L with
 |nil=>unfold C39;decide
 |cons a r=>
  intro x hx
  rw[join_cons,F1c]at hx
  rcases zY.mp hx with hx|hx
  ·exact h a (zM ..) x hx
  ·obtain⟨w,hw,hx⟩:=zB1.mp hx
   rcases List.mem_cons.mp hx with rfl|hx
   ·decide
   ·exact h w (zF _ hw) x hx
theorem D0n {s:ByteArray}(h:B3k s=true):C39 s:=by
 simp only[B3k,zJ,List.all_eq_true]at h
 intro x hx
 obtain⟨b,hb,rfl⟩:=List.mem_map.mp hx
 have:=h.1 b hb
 simp only[lower,zG]at this
 omega
theorem F08:∀(t:List UInt8),∀x∈B4w t,x≠10
 |[],x,hx=>by simp[B4w]at hx
 |b::t,x,hx=>by
  have hh:∀k:Fin 16,C7p k.val≠10:=by decide
  simp only[B4w]at hx
  rcases zY.mp hx with hx|hx
  ·unfold C5d at hx
   split at hx
   ·rename_i hp
    have hp:33≤b.toNat:=hp.1
    simp at hx;omega
   ·have hb:b.toNat<256:=b.toNat_lt
    simp at hx
    rcases hx with hx|hx|hx
    ·omega
    ·rw[hx];exact hh ⟨b.toNat / 16,by omega⟩
    ·rw[hx];exact hh ⟨b.toNat % 16,by omega⟩
  ·exact F08 t x hx
theorem F87 (a:Int):C39 (B30 a):=by
 intro x hx
 unfold B30 at hx
 split at hx
 ·split at hx
  ·rw[C4m]at hx
   rcases zY.mp hx with hx|hx
   ·have:sI F02=[45]:=by decide
    rw[this]at hx;simp at hx;omega
   ·have:=C7n 14 (-a) (by omega) x hx;omega
  ·have:=C7n 14 a (by omega) x hx;omega
 ·have:sI E0=[]:=by decide
  rw[this]at hx;simp at hx
theorem F37 (v:B3u):C39 (B2l v):=by
 unfold B2l
 split
 ·split
  ·unfold C39;decide
  ·split
   ·unfold C92
    split
    ·unfold C39;decide
    ·unfold C39;decide
   ·split
    ·exact F87 _
    ·rw[C39,D03]
     intro x hx
     rcases List.mem_cons.mp hx with rfl|hx
     ·decide
     ·rcases zY.mp hx with hx|hx
      ·exact F08 _ x hx
      ·simp at hx;omega
 ·unfold C39;decide
theorem F0e:∀(L:List ByteArray),(∀w∈L,C39 w)→spl 10 (L.flatMap fun w=>sI w++[10]) []=L.map sI++[[]]
 |[],_=>rfl
 |w::L,h=>by
  rw[zV,List.append_assoc,D9i _ _ _ (h w (zM ..))]
  simp only[List.nil_append,List.singleton_append,spl,if_true,List.map_cons,List.cons_append]
  rw[F0e L fun y hy=>h y (zF _ hy)]
def C4i (data:B71):List B25→Nat→List ByteArray
 |[],_=>[]
 |t::r,i=>B2w (C34 t)::((data.getD i []).map (fun row=>B2f (C1j t row))++C4i data r (i+1))
theorem F3c {α:Type}(g:α→ByteArray):∀(l:List α) (acc:ByteArray),sI (D3w g acc l)=sI acc++(l.map g).flatMap fun w=>sI w++[10]
 |[],acc=>by simp[D3w]
 |x::t,acc=>by
  have e:sI nl=[10]:=by decide
  simp only[D3w]
  rw[F3c g t,C4m,C4m,e]
  simp
theorem F71 (data:B71):∀(l:List B25) (i:Nat) (acc:ByteArray),sI (dbT data l i acc)=sI acc++(C4i data l i).flatMap fun w=>sI w++[10]
 |[],i,acc=>by simp[dbT,C4i]
 |t::r,i,acc=>by
  have e:sI nl=[10]:=by decide
  simp only[dbT,C4i]
  rw[F71 data r,F3c,C4m,C4m,e]
  simp
theorem E5w {c:B4j}(h:B3p c=true):∀w∈B8s c,C53 w∧C39 w∧w≠C1d:=by
 intro w hw
 have hn:B3k c.1=true:=by
  simp only[B3p,zJ]at h;exact h.1.1
 have ht:=D3j h
 simp only[B8s,zY,List.mem_cons,List.not_mem_nil,or_false]at hw
 have d1:∀w:ByteArray,w=⟨#[110,111,116]⟩→C53 w∧C39 w∧w≠C1d:=by rintro _ rfl;unfold C53 C39;decide
 rcases hw with((hw|hw)|hw)|hw
 ·rw[hw]
  refine⟨C3a hn,D0n hn,fun e=>?_⟩
  rw[e]at hn;revert hn;decide
 ·rw[hw]
  rcases D9t ht with e|e|e<;>rw[e]<;>unfold C53 C39<;>decide
 ·split at hw
  ·simp only[List.mem_cons,List.not_mem_nil,or_false]at hw;exact d1 w hw
  ·simp at hw
 ·split at hw
  ·simp only[List.mem_cons,List.not_mem_nil,or_false]at hw
   rename_i hd
   have hv:vOk c.2.2.2.2=true:=by
    simp only[B3p,zJ]at h
    have h2:=h.2
    rw[if_pos hd]at h2
    simp only[zJ]at h2
    exact h2.1
   have e61:sI (⟨#[61]⟩:ByteArray)=[61]:=by decide
   rw[hw]
   refine⟨fun x hx=>?_,F6p (by unfold C39;decide) (F37 _),fun e=>?_⟩
   ·rw[C4m,e61]at hx
    rcases zY.mp hx with hx|hx
    ·simp at hx;omega
    ·exact(D9u hv).1 x hx
   ·have:=congrArg sI e
    rw[C4m,e61]at this
    have hc:sI C1d=[41]:=by decide
    rw[hc]at this
    simp at this
  ·simp at hw
theorem F8g {a:Int}(h:1≤a∧a≤3):tyS (tyN a)=a:=by
 rcases D9t h with rfl|rfl|rfl<;>decide
theorem F4x {c:B4j}(h:B3p c=true)(hs:∀t∈B8s c,t.size≤1048576):C2e tyS (B8s c)=c:=by
 have ht:=D3j h
 obtain⟨w,a,r,d,v⟩:=c
 simp only[B3p,zJ]at h
 have h2:=h.2
 have h0:B8v ⟨#[110,111,116]⟩ (false,(false,(0,(0,E0))))=(true,(false,(0,(0,E0)))):=by
  unfold B8v;rw[if_pos (by rfl)]
 have hv:d=true→vOk v=true:=by
  intro e;subst e
  simp only[if_true,zJ]at h2;exact h2.1
 have h1:d=true→∀f:Bool×(Bool×B3u),B8v (⟨#[61]⟩++B2l v) f=(f.1,(true,v)):=by
  intro e f
  have hv:=hv e
  have e61:sI (⟨#[61]⟩:ByteArray)=[61]:=by decide
  have hsz:((⟨#[61]⟩:ByteArray)++B2l v).size=1+(B2l v).size:=by rw[ByteArray.size_append];rfl
  have n1:(⟨#[61]⟩:ByteArray)++B2l v≠E9o:=by
   intro e
   have:=congrArg sI e
   rw[C4m,e61]at this
   have hc:sI E9o=[110,111,116]:=by decide
   rw[hc]at this;simp at this
  have hb:bt ((⟨#[61]⟩:ByteArray)++B2l v) 0=61:=by
   have:=F5h (s:=(⟨#[61]⟩:ByteArray)++B2l v) (k:=0) (by omega)
   rw[show((0:Nat):Int)=0 from rfl]at this
   rw[this]
   simp[ByteArray.data_append]
  have n2:F17 ((⟨#[61]⟩:ByteArray)++B2l v)=true:=by
   unfold F17;rw[hb];simp[hsz];omega
  have n3:((⟨#[61]⟩:ByteArray)++B2l v).extract 1 ((⟨#[61]⟩:ByteArray)++B2l v).size=B2l v:=by
   apply F72
   rw[D6z,C4m,e61,hsz]
   have:(sI (B2l v)).length=(B2l v).size:=by unfold sI;rw[List.length_map,B3v]
   simp only[List.singleton_append,List.drop_succ_cons,List.drop_zero]
   rw[List.take_of_length_le (by omega)]
  unfold B8v
  rw[if_neg n1,if_pos n2,n3,E52 hv]
  have:=hs (⟨#[61]⟩++B2l v) (by simp only[B8s,zY,List.mem_cons];right;simp[e])
  omega
 unfold C2e
 simp only[B8s]
 rw[if_neg (by simp)]
 simp only[List.cons_append,List.nil_append,List.getD_cons_zero,List.getD_cons_succ,List.drop_succ_cons,List.drop_zero,F8g ht,flags]
 cases r<;>cases d
 ·simp only[Bool.false_eq_true,if_false,List.nil_append,List.foldl_nil]at h2⊢
  rw[zG]at h2
  rw[h2];rfl
 ·simp only[Bool.false_eq_true,if_false,if_true,List.nil_append,List.foldl_cons,List.foldl_nil,h1 rfl]
 ·simp only[Bool.false_eq_true,if_false,if_true,zH1,List.foldl_cons,List.foldl_nil,h0]at h2⊢
  rw[zG]at h2
  rw[h2];rfl
 ·simp only[if_true,List.cons_append,List.nil_append,List.foldl_cons,List.foldl_nil,h0,h1 rfl]
def E1p:ByteArray:=⟨#[107,101,121]⟩
theorem F2l:∀(cs:B2x) (ks:List ByteArray) (f:Nat) (acc:B2x),(∀c∈cs,B3p c=true)→(∀t∈B4a cs,t.size≤1048576)→(B4a cs++[E1p]++ks).length<f→crt tyS f (B4a cs++[E1p]++ks) acc=(acc++cs,ks)
 |[],ks,f,acc,_,_,hf=>by
  obtain⟨f,rfl⟩:∃i,f=i+1:=⟨f - 1,by simp at hf;omega⟩
  simp only[crt,B4a,List.nil_append,List.singleton_append,zW,List.getD_cons_zero,zH1,List.drop_succ_cons,List.drop_zero]
  rw[if_neg (by omega),if_neg (by decide)]
 |c::cs,ks,f,acc,hc,hs,hf=>by
  obtain⟨f,rfl⟩:∃i,f=i+1:=⟨f - 1,by simp at hf;omega⟩
  have e:B4a (c::cs)++[E1p]++ks=(D1t::B8s c)++C1d::(B4a cs++[E1p]++ks):=by
   simp[B4a,D1t,C1d]
  have hcc:=hc c (zM ..)
  have hi:idx pc ((D1t::B8s c)++C1d::(B4a cs++[E1p]++ks))=(((B8s c).length+1:Nat):Int):=by
   unfold idx
   rw[E0x (p:=pc) (D1t::B8s c) (B4a cs++[E1p]++ks) C1d 0 (fun y hy=>?_) (by decide)]
   ·simp
   ·rcases List.mem_cons.mp hy with rfl|hy
    ·decide
    ·exact zK (E5w hcc y hy).2.2
  rw[e]at hf⊢
  simp only[crt]
  rw[if_neg (by simp),if_pos (by rfl),hi,if_neg (by omega),zE]
  have t1:(((D1t::B8s c)++C1d::(B4a cs++[E1p]++ks)).take ((B8s c).length+1)).drop 1=B8s c:=by
   rw[List.take_left' (by simp)];rfl
  have t2:((D1t::B8s c)++C1d::(B4a cs++[E1p]++ks)).drop ((B8s c).length+1+1)=B4a cs++[E1p]++ks:=by
   rw[←List.drop_drop,List.drop_left' (by simp)];rfl
  rw[t1,t2,F4x hcc fun t ht=>hs t (by simp[B4a,ht])]
  rw[F2l cs ks f _ (fun x hx=>hc x (zF _ hx)) (fun t ht=>hs t (by simp[B4a,ht])) (by simp at hf⊢;omega)]
  simp
theorem E9y {x:B25}(h:B2d x=true):∀k∈x.2.2,B3k k=true:=by
 intro k hk
 obtain⟨p,_,hp,e,_⟩:=C9z h hk
 have:=C0n h _ (zL hp)
 simp only[B3p,zJ]at this
 rw[←e];exact this.1.1
theorem F7f {x:B25}(h:B2d x=true):B39 (C34 x)=true:=by
 have hw:=C3e h
 unfold B39 C34
 simp only[if_true,zI,zG1,zJ]
 exact⟨hw,h⟩
theorem D6n {x:B25}:C3j (C34 x)=B84::x.1::(B4a x.2.1++[E1p]++x.2.2):=by
 simp[C3j,C34,D9v,E1p];rfl
theorem E56:∀{cs:B2x},(∀c∈cs,B3p c=true)→∀w∈B4a cs,C53 w∧C39 w
 |[],_,w,hw=>by simp[B4a]at hw
 |c::cs,h,w,hw=>by
  simp only[B4a,zY,List.mem_cons,List.not_mem_nil,or_false]at hw
  rcases hw with((hw|hw)|hw)|hw
  ·rw[hw];unfold C53 C39;decide
  ·have:=E5w (h c (zM ..)) w hw;exact⟨this.1,this.2.1⟩
  ·rw[hw];unfold C53 C39;decide
  ·exact E56 (fun x hx=>h x (zF _ hx)) w hw
theorem F2j {x:B25}(h:B2d x=true):∀w∈C3j (C34 x),C53 w∧C39 w:=by
 intro w hw
 rw[D6n]at hw
 simp only[zY,List.mem_cons,List.not_mem_nil,or_false]at hw
 rcases hw with hw|hw|(hw|hw)|hw
 ·rw[hw];unfold C53 C39;decide
 ·rw[hw];exact⟨C3a (C3e h),D0n (C3e h)⟩
 ·exact E56 (C0n h) w hw
 ·rw[hw];unfold C53 C39;decide
 ·exact⟨C3a (E9y h w hw),D0n (E9y h w hw)⟩
def F8h (x:B25):B3t:=(5,(x.1,([],([],C34 x))))
theorem F6t {x:B25}(h:B2d x=true)(hz:(B2w (C34 x)).size≤1048576):B38 (B2w (C34 x))=(F8h x,(true,())):=by
 have hs:B2w (C34 x)=B8p (C3j (C34 x)):=by unfold B2w;rw[if_pos (F7f h)]
 have hc:B2v (B2w (C34 x)) 32=B84::x.1::(B4a x.2.1++[E1p]++x.2.2):=by
  rw[hs,E59 (by rw[D6n];simp) fun w hw=>(F2j h w hw).1,D6n]
 have hw:=(B70 32 hz).2
 rw[hc]at hw
 have hr:C3w tyS (B4a x.2.1++[E1p]++x.2.2)=(x.2.1,x.2.2):=by
  unfold C3w
  rw[F2l x.2.1 x.2.2 _ [] (C0n h) (fun t ht=>hw t (by simp[ht])) (Nat.lt_succ_self _)]
  rfl
 have hd:B5x (B2w (C34 x))=(C34 x,(true,())):=by
  unfold B5x
  rw[hc,if_neg (by simp)]
  simp only[List.getD_cons_zero,List.getD_cons_succ,List.drop_succ_cons,List.drop_zero,if_true,hr]
  exact if_pos rfl
 unfold B38
 rw[hc,if_neg (by simp)]
 simp only[List.getD_cons_zero,List.getD_cons_succ,List.drop_succ_cons,List.drop_zero,hd,if_true]
 rw[if_neg (by decide),if_neg (by decide),if_neg (by decide),if_neg (by decide)]
 rfl
theorem F6u {x:B25}{r:B2g}(h:B3l (C1j x r)=true)(hz:(B2f (C1j x r)).size≤1048576):B38 (B2f (C1j x r))=(C1j x r,(true,())):=by
 have hv:=C9q (E6f h rfl)
 have hn:B3k x.1=true:=by
  have h':=h
  unfold B3l C1j at h'
  rw[if_neg (show¬(1:Int)=5 by decide)]at h'
  simp only[zJ]at h';exact h'.1.1
 have hs:B2f (C1j x r)=B8p ([C4w,x.1]++B3f r):=by
  unfold B2f;rw[if_pos h,if_pos (show(C1j x r).1=1 from rfl)];rfl
 have hc:B2v (B2f (C1j x r)) 32=[C4w,x.1]++B3f r:=by
  rw[hs,E59 (by simp) fun w hw=>?_]
  simp only[zY,List.mem_cons,List.not_mem_nil,or_false]at hw
  rcases hw with(hw|hw)|hw
  ·rw[hw];exact F38
  ·rw[hw];exact C3a hn
  ·exact(C3s hv.1 w hw).1
 have hw:=(B70 32 hz).2
 rw[hc]at hw
 unfold B38
 rw[hc,if_neg (by simp)]
 simp only[List.cons_append,List.nil_append,List.getD_cons_zero,List.getD_cons_succ,List.drop_succ_cons,List.drop_zero,if_true]
 rw[D9c r hv.1 hv.2 fun t ht=>hw t (by simp[ht])]
 exact if_pos rfl
theorem F2z {x:B25}{r:B2g}:C39 (B2f (C1j x r)):=by
 unfold B2f
 split
 ·rename_i h
  have hn:B3k x.1=true:=by
   unfold B3l C1j at h
   rw[if_neg (show¬(1:Int)=5 by decide)]at h
   simp only[zJ]at h;exact h.1.1
  rw[if_pos (show(C1j x r).1=1 from rfl)]
  refine F03 fun w hw=>?_
  simp only[zY,List.mem_cons,List.not_mem_nil,or_false]at hw
  rcases hw with(hw|hw)|hw
  ·rw[hw];unfold C39;decide
  ·rw[hw];exact D0n hn
  ·obtain⟨y,_,rfl⟩:=List.mem_map.mp hw
   exact F37 y
 ·unfold C39;decide
theorem F7m {x:B25}{r:B2g}(h:B2d x=true)(hr:B4q x.2.1 r=true):B3l (C1j x r)=true:=by
 obtain⟨h1,h2⟩:=C7h.mp hr
 have ht:=h
 simp only[B2d,zJ,zG]at ht
 have hlen:=ht.1.1.1.2
 have hall:r.all vOk=true:=by
  rw[List.all_eq_true]
  intro v hv
  obtain⟨i,hi,rfl⟩:=List.mem_iff_getElem.mp hv
  have:=h2 i (by omega) hi
  simp only[B9j,zJ]at this
  exact this.1
 unfold B3l C1j
 rw[if_neg (show¬(1:Int)=5 by decide)]
 simp only[C3e h,zI,if_true,B6a,hall,Bool.and_true,zG1]
 exact zD ⟨by omega,by omega⟩
theorem F01 (data:B71):∀(l:List B25) (i:Nat),(∀k,(data.getD k []).length≤60)→(C4i data l i).length≤61*l.length
 |[],_,_=>Nat.le_refl 0
 |t::r,i,h=>by
  have:=F01 data r (i+1) h
  have:=h i
  simp only[C4i,zW,List.length_append,List.length_map];omega
theorem E15 (data:B71):∀(l:List B25) (i:Nat),∀w∈C4i data l i,∃k,∃hk:k<l.length,w=B2w (C34 l[k])∨∃r∈data.getD (i+k) [],w=B2f (C1j l[k] r)
 |[],_,w,hw=>by simp[C4i]at hw
 |t::r,i,w,hw=>by
  simp only[C4i,List.mem_cons,zY,List.mem_map]at hw
  rcases hw with hw|⟨a,ha,hw⟩|hw
  ·exact⟨0,by simp,.inl hw⟩
  ·exact⟨0,by simp,.inr ⟨a,ha,hw.symm⟩⟩
  ·obtain⟨k,hk,h⟩:=E15 data r (i+1) w hw
   refine⟨k+1,by simp;omega,?_⟩
   rw[show i+(k+1)=i+1+k by omega]
   exact h
theorem F82 {d:B5z}(h:B69 d=true){k:Nat}(hk:k<d.1.length){r:B2g}(hr:r∈d.2.getD k []):B2d d.1[k]=true∧B4q d.1[k].2.1 r=true:=by
 obtain⟨_,hl,hrow⟩:=B8u h
 have h2:k<d.2.length:=by omega
 rw[getD_at h2]at hr
 have:=B56 (hrow k hk h2)
 exact⟨this.1,this.2.2 r hr⟩
theorem F5n {d:B5z}(h:B69 d=true):B2v (B9h d) 10=C4i d.2 d.1 0++[E0]∧(C4i d.2 d.1 0).length≤366∧((B9h d).size≤1048576→∀w∈C4i d.2 d.1 0,(B38 w).2.1=true):=by
 obtain⟨hc,hl,hrow⟩:=B8u h
 have hcat:=C3i hc
 have hnl:∀w∈C4i d.2 d.1 0,C39 w:=by
  intro w hw
  obtain⟨k,hk,e|⟨r,hr,e⟩⟩:=E15 _ _ _ w hw
  ·rw[e]
   unfold B2w
   split
   ·exact F03 fun w hw=>(F2j (hcat.2 _ (zL hk)) w hw).2
   ·unfold C39;decide
  ·rw[e];exact F2z
 have hcut:B2v (B9h d) 10=C4i d.2 d.1 0++[E0]:=by
  apply D6s
  rw[F2g,B9h,if_pos h,F71]
  have e0:sI E0=[]:=by decide
  rw[e0,List.nil_append,F0e _ hnl]
  simp[e0]
 refine⟨hcut,?_,fun hz w hw=>?_⟩
 ·have:=F01 d.2 d.1 0 fun k=>by
   by_cases hk:k<d.2.length
   ·rw[getD_at hk];exact(B56 (hrow k (by omega) hk)).2.1
   ·rw[List.getD,List.getElem?_eq_none (by omega)];exact Nat.zero_le _
  have:=hcat.1
  omega
 ·have hsz:=(B70 10 hz).2 w (by rw[hcut];exact zZ _ hw)
  obtain⟨k,hk,e|⟨r,hr,e⟩⟩:=E15 _ _ _ w hw
  ·rw[e]at hsz⊢
   rw[F6t (hcat.2 _ (zL hk)) hsz]
  ·rw[zS]at hr
   obtain⟨a,b⟩:=F82 h hk hr
   rw[e]at hsz⊢
   rw[F6u (F7m a b) hsz]
noncomputable def D1y:List ByteArray→B5z→Option B5z
 |[],d=>some d
 |t::r,d=>if(B38 t).2.1=true then(if(C1c d (B38 t).1).2.1=0 then D1y r (C1c d (B38 t).1).1 else none)else D1y r d
noncomputable def E19:List ByteArray→B5z→Option B5z
 |[],d=>some d
 |t::r,d=>if(B38 t).2.1=true then(if(C1c d (B38 t).1).2.1=0 then E19 r (C1c d (B38 t).1).1 else none)else none
theorem F40 (x:B3t)(s:ByteArray):(C94 x s=(x,(true,()))∧B2f x=s)∨C94 x s=(C2f,(false,())):=by
 unfold C94
 split
 ·rename_i h;exact .inl ⟨rfl,h⟩
 ·exact .inr rfl
theorem C6n {s:ByteArray}(h:(B38 s).2.1=true):B3l (B38 s).1=true:=by
 have hne:=@D6o s 32
 have key:∀x:B3t,s≠E0→(C94 x s).2.1=true→B3l (C94 x s).1=true:=by
  intro x hs h
  rcases F40 x s with⟨a,b⟩|a
  ·rw[a];exact C91 hs b
  ·rw[a]at h;cases h
 have hd:=E0s s
 unfold B38 at h⊢
 split
 ·rename_i c;rw[if_pos c]at h;cases h
 rename_i c
 have hs:=hne c
 rw[if_neg c]at h
 split
 ·rename_i c1;rw[if_pos c1]at h;exact key _ hs h
 rename_i c1;rw[if_neg c1]at h
 split
 ·rename_i c2;rw[if_pos c2]at h
  split
  ·rename_i c3;rw[if_pos c3]at h;cases h
  ·rename_i c3;rw[if_neg c3]at h;exact key _ hs h
 rename_i c2;rw[if_neg c2]at h
 split
 ·rename_i c3;rw[if_pos c3]at h;exact key _ hs h
 rename_i c3;rw[if_neg c3]at h
 split
 ·rename_i c4;rw[if_pos c4]at h;exact key _ hs h
 rename_i c4;rw[if_neg c4]at h
 rcases hd with⟨d,e,e2,_⟩|e
 ·rw[e]
  have:B39 d=true:=by
   cases hc:B39 d with
   |true=>rfl
   |false=>exact absurd e2 (B7a hs hc)
  simp[B3l,this]
 ·rw[e]at h;cases h
noncomputable def D0f (s:ByteArray):B5z×(Bool×Unit):=if s=E0 then(C38,(true,()))else
 match D1y (B2v s 10) C38 with
 |none=>(C38,(false,()))
 |some d=>if B9h d=s then(d,(true,()))else(C38,(false,()))
theorem F19:B69 C38=true:=by decide
theorem F7c:(B38 E0).2.1=false:=by
 unfold B38
 rw[if_pos (show(B2v E0 32).length<2 by decide)]
theorem F3a:∀{L:List ByteArray} {d:B5z},(∀w∈L,(B38 w).2.1=true)→E19 L d=D1y L d
 |[],_,_=>rfl
 |t::r,d,h=>by
  have ht:=h t (zM ..)
  simp only[E19,D1y,if_pos ht]
  split
  ·exact F3a fun w hw=>h w (zF _ hw)
  ·rfl
theorem F1b:∀{L:List ByteArray} {d e:B5z},E19 L d=some e→D1y L d=some e
 |[],_,_,h=>h
 |t::r,d,e,h=>by
  simp only[E19,D1y]at h⊢
  split
  ·rename_i c
   rw[if_pos c]at h
   split
   ·rename_i c2;rw[if_pos c2]at h;exact F1b h
   ·rename_i c2;rw[if_neg c2]at h;cases h
  ·rename_i c;rw[if_neg c]at h;cases h
theorem D3x:∀{L:List ByteArray} {d:B5z},D1y (L++[E0]) d=D1y L d
 |[],d=>by
  simp only[List.nil_append,D1y,F7c];rfl
 |t::r,d=>by
  simp only[List.cons_append,D1y]
  rw[D3x,D3x]
theorem F48:∀{L:List ByteArray} {d e:B5z},(∀w∈L,w.size≤1048576)→B9g 1048576 d→B69 d=true→D1y L d=some e→B9g 1048576 e∧B69 e=true
 |[],d,e,_,hs,ok,h=>by
  obtain rfl:=oI h;exact⟨hs,ok⟩
 |t::r,d,e,hw,hs,ok,h=>by
  simp only[D1y]at h
  split at h
  ·rename_i c
   split at h
   ·rename_i c2
    exact F48 (fun w hw'=>hw w (zF _ hw')) (E0o hs (C41 (hw t (zM ..))) ok) (E5b ok (C6n c) c2) h
   ·cases h
  ·exact F48 (fun w hw'=>hw w (zF _ hw')) hs ok h
theorem E5t {L M:List ByteArray}{x y:ByteArray}(h:L++[x]=M++[y]):L=M∧x=y:=by
 have:=List.append_inj' h rfl
 exact⟨this.1,(List.cons.inj this.2).1⟩
theorem F79 {s:ByteArray}(hz:s.size≤1048576){L:List ByteArray}{x:ByteArray}(hL:B2v s 10=L++[x]):
  (if x≠E0∨366<L.length then(C38,(false,()))else match E19 L C38 with
   |none=>(C38,(false,()))
   |some d=>if B9h d=s then(d,(true,()))else(C38,(false,())))=D0f s:=by
 have hw:=(B70 10 hz).2
 unfold D0f
 by_cases h0:s=E0
 ·subst h0
  have e:B2v E0 10=[]++[E0]:=by decide
  obtain⟨rfl,rfl⟩:=E5t (hL.symm.trans e)
  rw[if_neg (by simp),if_pos rfl]
  simp only[E19]
  exact if_pos (by decide)
 rw[if_neg h0,hL]
 have back:∀d:B5z,B9h d=s→D1y (L++[x]) C38=some d→x=E0∧L.length≤366∧E19 L C38=some d:=by
  intro d hd hr
  have ok:B69 d=true:=by
   unfold B9h at hd
   split at hd
   ·assumption
   ·exact absurd hd.symm h0
  obtain⟨h1,h2,h3⟩:=F5n ok
  rw[hd]at h1 h3
  obtain⟨rfl,rfl⟩:=E5t (hL.symm.trans h1)
  refine⟨rfl,h2,?_⟩
  rw[F3a (h3 hz),←D3x,hr]
 cases hr:D1y (L++[x]) C38 with
 |none=>
  simp only
  split
  ·rfl
  ·rename_i hc
   have hx:x=E0:=Classical.byContradiction fun h=>hc (.inl h)
   subst hx
   cases hi:E19 L C38 with
   |none=>rfl
   |some d=>
    have:=F1b hi
    rw[D3x,this]at hr;cases hr
 |some d=>
  simp only
  by_cases hd:B9h d=s
  ·obtain⟨a,b,c⟩:=back d hd hr
   rw[if_neg (by rintro(h|h);exact h a;omega),c]
  ·rw[if_neg hd]
   split
   ·rfl
   ·rename_i hc
    have hx:x=E0:=Classical.byContradiction fun h=>hc (.inl h)
    subst hx
    cases hi:E19 L C38 with
    |none=>rfl
    |some e=>
     have:=F1b hi
     rw[D3x,this]at hr
     obtain rfl:=oI hr
     simp only[if_neg hd]
def F4g (s:ByteArray):Option B5z→B5z×(Bool×Unit)
 |none=>(C38,(false,()))
 |some d=>if B9h d=s then(d,(true,()))else(C38,(false,()))
theorem E9u (s:ByteArray)(d:B5z):(bif !(decide (B9h d=s))then some (C38,(false,()))else some ((d.1,d.2),(true,())))=some (F4g s (some d)):=by
 unfold F4g
 by_cases h:B9h d=s<;>simp[h]
theorem E5l:EV fun n=>∀s:ByteArray,s.size≤1048576→C3n n s=some (D0f s):=(E20.and (E0z.and (F15.and (E5j.and (EV.gt 1048580))))).up fun n ⟨h1,h2,h3,h4,hn⟩ s hs=>by
 have hw:=B70 10 hs
 have hne:B2v s 10≠[]:=by
  intro e
  have:=D8w s 10
  rw[e]at this;simp[E9p]at this
 obtain⟨L,x,hL⟩:∃L x,B2v s 10=L++[x]:=⟨_,_,(List.dropLast_concat_getLast hne).symm⟩
 have hI:=F79 hs hL
 rw[hL]at hw
 have hlen:=hw.1
 simp only[List.length_append,zW,zX]at hlen
 have loop:∀(t:List ByteArray) (j k:Nat) (q:B5z),L.drop k=t→k≤L.length→t.length<j→B9g 1048576 q→B69 q=true→
   B9l n j s 0 L.length (L.length:Int) (k:Int) [] [] q.1 q.2 (L++[x])=some (F4g s (E19 t q)):=by
  intro t
  induction t with
  |nil=>
   intro j k q hdr hkl hj hq _
   obtain⟨j,rfl⟩:∃i,j=i+1:=⟨j - 1,by simp at hj;omega⟩
   have:k=L.length:=by
    rcases zE1 k L.length with h'|h'
    ·rw[zC1 h']at hdr;cases hdr
    ·omega
   subst this
   simp only[B9l,A7d,zP,zH,zA,h4 q hq,zC,B2p,E19]
   exact E9u s q
  |cons w t ih=>
   intro j k q hdr hkl hj hq hqk
   obtain⟨j,rfl⟩:∃i,j=i+1:=⟨j - 1,by simp at hj;omega⟩
   obtain⟨g2,g3,g4⟩:=B32 hdr E0
   have g3':(L++[x]).getD (0+k) E0=w:=by
    rw[zS,List.getD,List.getElem?_append_left g2];exact g3
   have hws:w.size≤1048576:=hw.2 w (zZ _ (by rw[←g3,getD_at g2];exact zL g2))
   have hr:inR (k:Int) L.length=true:=R1 g2
   simp only[B9l,A7d,zD g2,hr,zE,show(⟨#[]⟩:ByteArray)=E0 from rfl,g3',zB,B26 g2 (by omega),h2 w hws,zC,B4r,E19]
   cases sk:(B38 w).2.1
   ·simp only[zU,zB,Bool.false_eq_true,if_false];rfl
   ·have e3:=h3 q (B38 w).1 hq (C41 hws) hqk (C6n sk)
    simp only[zT,zA,e3,zC,if_true]
    by_cases hz:(C1c q (B38 w).1).2.1=0
    ·simp only[hz,zI,zT,zA,if_true]
     exact ih j (k+1) (C1c q (B38 w).1).1 g4 (by omega) (by simp at hj;omega) (E0o hq (C41 hws) hqk) (E5b hqk (C6n sk) hz)
    ·simp only[hz,zH,zU,zB,if_false];rfl
 have hlast:(L++[x]).getD L.length E0=x:=by simp[List.getD]
 have w1:IntKind.wrap .i64 (((L++[x]).length:Int) - (1:Int))=(L.length:Int):=by
  simp only[List.length_append,zW,zX]
  rw[wrap64]<;>omega
 have r1:inR (L.length:Int) (L++[x]).length=true:=R1 (by simp)
 have l1:=loop L n 0 C38 rfl (by omega) (by omega) C79 F19
 simp only[C3n,h1 s 10 hs,hL,zC,w1,r1,zB,zE,show(⟨#[]⟩:ByteArray)=E0 from rfl,hlast,B2p]
 rw[←hI]
 by_cases hx:x=E0
 ·by_cases hlong:366<L.length
  ·rw[if_pos (.inr hlong)]
   have d1:decide ((367:Int)<((L++[x]).length:Int))=true:=zD (by simp only[List.length_append,zW,zX];omega)
   simp only[d1,zB]
   cases !decide (x=E0)<;>rfl
  ·rw[if_neg (by rintro(h|h);exact h hx;exact hlong h)]
   have d1:decide ((367:Int)<((L++[x]).length:Int))=false:=zK (by simp only[List.length_append,zW,zX];omega)
   have d2:decide (0≤((0:Nat):Int)∧((0:Nat):Int)≤(L.length:Int)∧(L.length:Int)≤((L++[x]).length:Int))=true:=zD (by simp only[List.length_append,zW,zX];omega)
   have d3:decide (x=E0)=true:=zD hx
   simp only[d1,d2,d3,zT,zA,zB,Nat.sub_zero]
   refine l1.trans ?_
   rfl
 ·rw[if_pos (.inl hx)]
  simp only[hx,zH,zU,zB];rfl
theorem E68:EV fun n=>∀s:ByteArray,s.size≤1048576→C6l n s=some (D0f s):=(D09.and (E1b.and (F1d.and (E67.and (EV.gt 1048580))))).up fun n ⟨h1,h2,h3,h4,hn⟩ s hs=>by
 have hw:=B70 10 hs
 unfold D0f
 simp only[C6l,show(⟨#[]⟩:ByteArray)=E0 from rfl,B2p]
 by_cases h0:s=E0
 ·simp only[h0,zI,zB,if_true];rfl
 simp only[h0,zH,zA,if_false,h1 s 10 hs,zC]
 generalize B2v s 10=L at hw⊢
 have hlen:=hw.1
 have loop:∀(t:List ByteArray) (j k:Nat) (q:B5z),L.drop k=t→k≤L.length→t.length<j→B9g 1048576 q→B69 q=true→
   B7y n j s (L.length:Int) (k:Int) [] [] q.1 q.2 L=some (F4g s (D1y t q)):=by
  intro t
  induction t with
  |nil=>
   intro j k q hdr hkl hj hq _
   obtain⟨j,rfl⟩:∃i,j=i+1:=⟨j - 1,by simp at hj;omega⟩
   have:k=L.length:=by
    rcases zE1 k L.length with h'|h'
    ·rw[zC1 h']at hdr;cases hdr
    ·omega
   subst this
   simp only[B7y,A7d,zP,zH,zA,h4 q hq,zC,B2p,D1y]
   exact E9u s q
  |cons w t ih=>
   intro j k q hdr hkl hj hq hqk
   obtain⟨j,rfl⟩:∃i,j=i+1:=⟨j - 1,by simp at hj;omega⟩
   obtain⟨g2,g3,g4⟩:=B32 hdr E0
   have hws:w.size≤1048576:=hw.2 w (by rw[←g3,getD_at g2];exact zL g2)
   simp only[B7y,A7d,zD g2,R1 g2,zE,show(⟨#[]⟩:ByteArray)=E0 from rfl,g3,zB,B26 g2 (by omega),h2 w hws,zC,B4r,D1y]
   cases sk:(B38 w).2.1
   ·simp only[zU,zB,Bool.false_eq_true,if_false]
    exact ih j (k+1) q g4 (by omega) (by simp at hj;omega) hq hqk
   ·have e3:=h3 q (B38 w).1 hq (C41 hws)
    have e:F5i q (B38 w).1=C1c q (B38 w).1:=if_pos ⟨hqk,C6n sk⟩
    rw[e]at e3
    simp only[zT,zA,e3,zC,if_true]
    by_cases hz:(C1c q (B38 w).1).2.1=0
    ·simp only[hz,zI,zT,zA,if_true]
     exact ih j (k+1) (C1c q (B38 w).1).1 g4 (by omega) (by simp at hj;omega) (E0o hq (C41 hws) hqk) (E5b hqk (C6n sk) hz)
    ·simp only[hz,zH,zU,zB,if_false];rfl
 exact loop L n 0 C38 rfl (by omega) (by omega) C79 F19
theorem F3s {s:ByteArray}(hs:s.size≤1048576):B9g 1048576 (D0f s).1:=by
 unfold D0f
 split
 ·exact C79
 ·split
  ·exact C79
  ·rename_i d hd
   split
   ·exact(F48 (B70 10 hs).2 C79 F19 hd).1
   ·exact C79
theorem F3g:EV fun n=>∀(x0:ByteArray),x0.size≤1048576→∃r,C6l n x0=some r∧C3n n x0=some r∧B9g 1048576 r.1:=
 (E68.and E5l).mono fun n ⟨h1,h2⟩ s hs=>⟨_,h1 s hs,h2 s hs,F3s hs⟩
theorem F84:EV fun n=>∀(x0:ByteArray),x0.size≤140737488355328→C36 n x0=some true:=((F7k.and (F59.and (F57.and F3g)))).up fun n h x0 w0=>by
 rw[C36]
 refine F7n fun s0=>?_
 obtain⟨r,e1,e2,z0⟩:=h.2.2.2 x0 s0
 have u0:=h.1 r.1 r.1 z0
 have b0:=F8d z0
 have m10:=h.2.1 r.1 ((1:Int)) z0 (by omega) (by simp only[B3g];omega)
 have n10:=h.2.2.1 r.1 ((1:Int)) z0 (by omega) (by simp only[B3g];omega)
 have d10:decide ((1:Int)+(D99 r.1:Int)<0)=false:=zK (by omega)
 simp only[e1,e2,u0,m10,n10,d10,zC,zI,zT,zU,Bool.or_false,Bool.false_or,bne_self_eq_false,BEq.rfl,zB,zA]

end Go.Proofs.YtalmhjlcjcnidaaGreat.Ev

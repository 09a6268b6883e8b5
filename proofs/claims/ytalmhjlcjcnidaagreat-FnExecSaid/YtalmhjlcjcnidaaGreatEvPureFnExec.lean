/- The pure part of the law FnExec, second half: what the program computes answers as the statement says, for every input. -/
import Derived.Test.YtalmhjlcjcnidaaGreatEvPureAFnExec
set_option linter.all false
namespace Go.Proofs.YtalmhjlcjcnidaaGreat.Ev
open Go
theorem D2c {x:C1}{l:A7d}{d:B2w}(hx:B2j 1048576 x)(hl:B34 1048576 l)(hd:C1r 1048576 d):B34 1048576 (B4t x l d).1:=by
 unfold B4t
 split
 ·rename_i h
  obtain⟨hr,hk,_,_⟩:=h
  split
  ·dsimp only
   split
   ·exact B4l
   ·refine⟨by rw[List.length_map];exact hl.1,fun r hr'=>?_⟩
    obtain⟨r0,h0,rfl⟩:=List.mem_map.mp hr'
    have hs:=hl.2 r0 h0
    have h8:=(B7h (B3w hr).1).2.2.1
    have hrl:=B6u hr r0 h0
    unfold B76
    split
    ·exact⟨Nat.le_trans (C0u _ _) hs.1,fun v hv=>hs.2 v (C0v hv)⟩
    ·split
     ·rename_i k3
      obtain⟨c,hcs,_⟩:=C2m hk k3
      refine⟨by rw[List.length_append];simp only[zW,zX];omega,fun v hv=>?_⟩
      rcases zY.mp hv with hv|hv
      ·exact hs.2 v hv
      ·rw[hcs]at hv
       simp only[List.getD_cons_zero,zF1]at hv
       have:=hd.2.1.2 c (by rw[hcs];simp)
       rw[hv]
       exact this.2
     ·exact hs
  ·exact B4l
 ·exact B4l
def D1t:B7j:=([],[])
def B5o (x:C1)(l:A7d)(s:B32):A7d×(Int×Unit):=
 if s.1=1 then B88 x l s.2.2.2.1 else if s.1=2 then C0d x l s.2.2.1 s.2.2.2.1 else if s.1=3 then C0c x l s.2.2.1 else if s.1=5 then B4t x l s.2.2.2.2 else([],(0,()))
def B4k (d:B7j)(s:B32)(t:C1):A7d:=
 if 0≤tAt d.1 t.1 then(if t.1=s.2.1 then(B4t (d.1.getD (tAt d.1 t.1).toNat C19) (d.2.getD (tAt d.1 t.1).toNat []) s.2.2.2.2).1 else d.2.getD (tAt d.1 t.1).toNat [])else []
def B9z (d:B7j)(s:B32):B7j×(Int×Unit):=
 if(B39 d.1 s.2.2.2.2).2.1=0 then(((B39 d.1 s.2.2.2.2).1,(B39 d.1 s.2.2.2.2).1.map (B4k d s)),(0,()))else(D1t,(10+(B39 d.1 s.2.2.2.2).2.1,()))
def B59 (d:B7j)(s:B32):B7j×(Int×Unit):=
 if tAt d.1 s.2.1<0∧(s.1≠5∨s.2.2.2.2.1≠1)then(D1t,(4,()))else
 if s.1=5 then B9z d s else
 if(B5o (d.1.getD (tAt d.1 s.2.1).toNat C19) (d.2.getD (tAt d.1 s.2.1).toNat []) s).2.1=0 then((d.1,d.2.set (tAt d.1 s.2.1).toNat (B5o (d.1.getD (tAt d.1 s.2.1).toNat C19) (d.2.getD (tAt d.1 s.2.1).toNat []) s).1),(0,()))
 else(D1t,(10+(B5o (d.1.getD (tAt d.1 s.2.1).toNat C19) (d.2.getD (tAt d.1 s.2.1).toNat []) s).2.1,()))
def C5d (d:B7j)(s:B32):B7j×(Int×Unit):=if B68 d=true∧B89 s=true then B59 d s else(D1t,(1,()))
theorem D9x {s:B32}(h:B89 s=true)(k5:s.1=5):B3m s.2.2.2.2=true∧s.2.1=s.2.2.2.2.2.1:=by
 simp only[B89,k5,if_true,zJ,zG]at h
 exact⟨h.1.1.1,h.1.1.2⟩
def D1v (c:Int):Prop:=0≤c∧c≤100
theorem D3z (x:C1)(d:B2w):D1v (B4h x d):=by
 unfold B4h D1v
 repeat' split
 all_goals omega
theorem E0c (l:B25)(d:B2w):D1v (B98 l d):=by
 unfold B98
 split
 ·split
  ·exact⟨by omega,by omega⟩
  ·split
   ·exact⟨by omega,by omega⟩
   ·exact⟨by omega,by omega⟩
 ·split
  ·exact⟨by omega,by omega⟩
  ·exact D3z _ _
theorem C4t (l:B25)(d:B2w):D1v (B39 l d).2.1:=by
 unfold B39
 split
 ·split
  ·exact⟨by simp,by simp⟩
  ·exact E0c _ _
 ·exact⟨by simp,by simp⟩
theorem C6z (x:C1)(l:A7d)(s:B32):D1v (B5o x l s).2.1:=by
 unfold B5o
 split
 ·unfold B88
  repeat' split
  all_goals exact⟨by simp,by simp⟩
 split
 ·unfold C0d
  repeat' split
  all_goals exact⟨by simp,by simp⟩
 split
 ·unfold C0c
  repeat' split
  all_goals exact⟨by simp,by simp⟩
 split
 ·unfold B4t
  split
  ·split
   ·exact⟨by simp,by simp⟩
   ·exact D3z _ _
  ·exact⟨by simp,by simp⟩
 ·exact⟨by simp,by simp⟩
theorem D8q {c:Int}(h:D1v c):IntKind.wrap .i64 ((10:Int)+c)=10+c:=by
 obtain⟨h1,h2⟩:=h
 rw[wrap64]<;>omega
theorem E0t {x:C1}{l:A7d}{s:B32}(hx:B2j 1048576 x)(hl:B34 1048576 l)(hs:B99 1048576 s):B34 1048576 (B5o x l s).1:=by
 unfold B5o
 split
 ·obtain⟨n,h⟩:=D9c
  obtain⟨n2,h2⟩:=C1a
  obtain⟨r,e1,_,e3⟩:=h (max n n2) (Nat.le_max_left ..) x l s.2.2.2.1 hx hl hs.2.2.1
  rw[h2 (max n n2) (Nat.le_max_right ..) x l s.2.2.2.1 hx hl hs.2.2.1.1]at e1
  obtain rfl:=oI e1;exact e3
 split
 ·obtain⟨n,h⟩:=D9d
  obtain⟨n2,h2⟩:=C3e
  obtain⟨r,e1,_,e3⟩:=h (max n n2) (Nat.le_max_left ..) x l s.2.2.1 s.2.2.2.1 hx hl hs.2.1 hs.2.2.1
  rw[h2 (max n n2) (Nat.le_max_right ..) x l s.2.2.1 s.2.2.2.1 hx hl hs.2.2.1.1]at e1
  obtain rfl:=oI e1;exact e3
 split
 ·obtain⟨n,h⟩:=D9b
  obtain⟨n2,h2⟩:=C3d
  obtain⟨r,e1,_,e3⟩:=h (max n n2) (Nat.le_max_left ..) x l s.2.2.1 hx hl hs.2.1
  rw[h2 (max n n2) (Nat.le_max_right ..) x l s.2.2.1 hx hl]at e1
  obtain rfl:=oI e1;exact e3
 split
 ·exact D2c hx hl hs.2.2.2
 ·exact B4l
theorem C5l:EV fun n=>∀(x:C1) (l:A7d) (s:B32),B2j 1048576 x→B34 1048576 l→B99 1048576 s→B9y n x.1 x.2.1 x.2.2 l s.1 s.2.1 s.2.2.1 s.2.2.2.1 s.2.2.2.2.1 s.2.2.2.2.2.1 s.2.2.2.2.2.2.1 s.2.2.2.2.2.2.2.1 s.2.2.2.2.2.2.2.2.1 s.2.2.2.2.2.2.2.2.2=some (B5o x l s):=(C1a.and (C3e.and (C3d.and D2w))).up fun n ⟨h1,h2,h3,h4⟩ x l s hx hl hs=>by
 simp only[B9y,h1 x l _ hx hl hs.2.2.1.1,h2 x l _ _ hx hl hs.2.2.1.1,h3 x l _ hx hl,h4 x l s.2.2.2.2 hx hl hs.2.2.2,zC,B2z,B5o,C1v]
 split
 ·rfl
 split
 ·rfl
 split
 ·rfl
 split<;>rfl
theorem D2x:EV fun n=>∀d:B7j,C1o 1048576 d→C1i n d.1 d.2=some d:=(C5i.and (C5j.and (EV.gt 1048577))).up fun n ⟨h1,h2,hn⟩ d hs=>by
 have hl:=hs.2.1
 simp only[C1i,h1 d.1 hs.1,zC]
 refine(B8a d.2 (fun _ x (s:B6l)=>s++[x]) (fun j k acc=>B6y n j d.2 (d.2.length:Int) (k:Int) [] [] d.1 acc) (fun s=>some (d.1,s)) (fun k s=>s.length≤k) (fun k hk s h=>?_) (fun j acc _=>?_) (fun j k acc hk ha=>?_) d.2 n 0 [] rfl (by omega) (by omega) (Nat.le_refl 0)).trans ?_
 ·rw[List.length_append];simp only[zW,zX];omega
 ·simp only[B6y,D2,zP,zH,zA]
 ·have e:=h2 d.2[k] (hs.2.2 _ (zL hk))
  have r3:∀x:D1g,room (acc.length+[x].length) 24=true:=fun x=>by simp only[room,zG,zW,zX];omega
  simp only[B6y,D2,zD hk,D1 hk,zE,getD_at hk,zB,D3 hk (by omega),e,zC,r3]
 ·rw[C70];rfl
theorem C6s:EV fun n=>∀d:B7j,C1o 1048576 d→B4e n d.1 d.2=some d:=(C5f.and (B7t.and (EV.gt 1048577))).up fun n ⟨h1,h2,hn⟩ d hs=>by
 have hl:=hs.2.1
 simp only[B4e,h1 d.1 hs.1,zC]
 refine(B8a d.2 (fun _ x (s:B6l)=>s++[x]) (fun j k acc=>B7s n j d.2 (d.2.length:Int) (k:Int) [] [] d.1 acc) (fun s=>some (d.1,s)) (fun k s=>s.length≤k) (fun k hk s h=>?_) (fun j acc _=>?_) (fun j k acc hk ha=>?_) d.2 n 0 [] rfl (by omega) (by omega) (Nat.le_refl 0)).trans ?_
 ·rw[List.length_append];simp only[zW,zX];omega
 ·simp only[B7s,D2,zP,zH,zA]
 ·have e:=h2 d.2[k] (hs.2.2 _ (zL hk))
  have r3:∀x:D1g,room (acc.length+[x].length) 24=true:=fun x=>by simp only[room,zG,zW,zX];omega
  simp only[B7s,D2,zD hk,D1 hk,zE,getD_at hk,zB,D3 hk (by omega),e,zC,r3]
 ·rw[C70];rfl
theorem C35 {d:B7j}(hd:B68 d=true)(s:B32){t:C1}{i:Nat}(hi:i<d.1.length)(e:t.1=d.1[i].1):B4k d s t=if d.1[i].1=s.2.1 then(B4t d.1[i] (d.2[i]'(by have:=(C6n hd).1;omega)) s.2.2.2.2).1 else d.2[i]'(by have:=(C6n hd).1;omega):=by
 obtain⟨hc,hl,_⟩:=B69 hd
 have hi2:i<d.2.length:=by omega
 unfold B4k
 rw[e,D9y hc hi,if_pos (by omega)]
 simp only[zE,getD_at hi,getD_at hi2]
theorem D0r:EV fun n=>∀(d:B7j) (s:B32),C1o 1048576 d→B99 1048576 s→B68 d=true→s.1=5→B9n n d.1 d.2 s.1 s.2.1 s.2.2.1 s.2.2.2.1 s.2.2.2.2.1 s.2.2.2.2.2.1 s.2.2.2.2.2.2.1 s.2.2.2.2.2.2.2.1 s.2.2.2.2.2.2.2.2.1 s.2.2.2.2.2.2.2.2.2=some (B9z d s):=(C4n.and (C46.and (C5l.and (C5j.and (EV.gt 1048577))))).up fun n ⟨h1,h2,h3,h4,hn⟩ d s hd hs ok k5=>by
 obtain⟨hc,hl,_⟩:=B69 ok
 have hsm:=D1m hd.1 hs.2.2.2
 simp only[B9n,h1 d.1 s.2.2.2.2 hd.1 hs.2.2.2,zC,B4a,B9z,D8q (C4t d.1 s.2.2.2.2)]
 by_cases hz:(B39 d.1 s.2.2.2.2).2.1=0
 rotate_left
 ·simp only[hz,zH,zU,zB,if_false];rfl
 simp only[hz,zI,zT,zA,if_true]
 generalize (B39 d.1 s.2.2.2.2).1=c at hsm
 have hcl:=hsm.1
 refine(B8a c (fun _ t (q:B6l)=>if false=true then q else q++[B4k d s t]) (fun j k acc=>B3e n j c (c.length:Int) (k:Int) d.1 d.2 s.1 s.2.1 s.2.2.1 s.2.2.2.1 s.2.2.2.2.1 s.2.2.2.2.2.1 s.2.2.2.2.2.2.1 s.2.2.2.2.2.2.2.1 s.2.2.2.2.2.2.2.2.1 s.2.2.2.2.2.2.2.2.2 [] [] c acc) (fun q=>some ((c,q),(0,())))
  (fun k q=>q.length≤k) (fun k hk q h=>?_) (fun j acc _=>?_) (fun j k acc hk ha=>?_) c n 0 [] rfl (by omega) (by omega) (Nat.le_refl 0)).trans ?_
 ·simp only[Bool.false_eq_true,if_false,List.length_append,zW,zX];omega
 ·simp only[B3e,D2,zP,zH,zA]
 ·have e2:=h2 d.1 c[k].1 hd.1.1
  rw[show idx (fun t:C1=>decide (t.1=c[k].1)) d.1=tAt d.1 c[k].1 from rfl]at e2
  have r3:∀x:D1g,room (acc.length+[x].length) 24=true:=fun x=>by simp only[room,zG,zW,zX];omega
  simp only[B3e,D2,zD hk,D1 hk,zE,getD_at hk,zB,D3 hk (by omega),e2,zC,B41,Bool.false_eq_true,if_false,B4k]
  rcases B96 d.1 c[k].1 with cn|⟨i,ei,hi⟩
  ·have z:¬(0≤tAt d.1 c[k].1):=by omega
   simp only[zK z,zA,r3,zB,if_neg z]
  ·have z:(0:Int)≤(i:Int):=by omega
   have hi2:i<d.2.length:=by omega
   have e3:=h3 d.1[i] d.2[i] s (hd.1.2 _ (zL hi)) (hd.2.2 _ (zL hi2)) hs
   have e4:=h4 d.2[i] (hd.2.2 _ (zL hi2))
   have e5:B5o d.1[i] d.2[i] s=B4t d.1[i] d.2[i] s.2.2.2.2:=by simp[B5o,k5]
   simp only[ei,zD z,zB,D1 hi,D1 hi2,zE,getD_at hi,getD_at hi2,e3,e4,e5,zC,r3,if_pos z,C1v]
   split<;>rfl
 ·rw[C0e (fun _=>false) (B4k d s),List.nil_append]
  rw[show c.filter (fun _=> !false)=c from List.filter_eq_self.mpr fun _ _=>rfl]
theorem D7z:EV fun n=>∀(d:B7j) (s:B32),C1o 1048576 d→B99 1048576 s→C77 n d.1 d.2 s.1 s.2.1 s.2.2.1 s.2.2.2.1 s.2.2.2.2.1 s.2.2.2.2.2.1 s.2.2.2.2.2.2.1 s.2.2.2.2.2.2.2.1 s.2.2.2.2.2.2.2.2.1 s.2.2.2.2.2.2.2.2.2=some (C5d d s):=(D7y.and (D4i.and (C46.and (D0r.and (C5l.and D2x))))).up fun n ⟨h1,h2,h3,h4,h5,h6⟩ d s hd hs=>by
 have e3:=h3 d.1 s.2.1 hd.1.1
 rw[show idx (fun t:C1=>decide (t.1=s.2.1)) d.1=tAt d.1 s.2.1 from rfl]at e3
 simp only[C77,h1 d hd,h2 s hs,e3,h6 d hd,zC,C5d,B2z,B4a]
 cases ok:B68 d
 ·simp;rfl
 cases sk:B89 s
 ·simp;rfl
 obtain⟨hc,hl,_⟩:=B69 ok
 simp only[zT,zA,and_self,if_true,B59]
 by_cases k5:s.1=5
 ·have e4:=h4 d s hd hs ok k5
  simp only[k5]at e4
  simp only[k5,zI,zT,zB,zA,e4,zC,ne_eq,not_true_eq_false,false_or,if_true]
  by_cases c:tAt d.1 s.2.1<0
  ·by_cases k1:s.2.2.2.2.1=1
   ·simp only[zD c,k1,zI,zB,zT,zA,not_true_eq_false,and_false,if_false]
   ·simp only[zD c,k1,zH,zB,zU,not_false_eq_true,and_true,if_pos c];rfl
  ·simp only[zK c,zA]
   rw[if_neg (fun h=>c h.1)]
 ·simp only[k5,zH,zU,zB,zA,ne_eq,not_false_eq_true,true_or,and_true,if_false]
  rcases B96 d.1 s.2.1 with cn|⟨i,ei,hi⟩
  ·simp only[zD cn,zB,if_pos cn];rfl
  ·have z:¬((i:Int)<0):=by omega
   have hi2:i<d.2.length:=by omega
   have e5:=h5 d.1[i] d.2[i] s (hd.1.2 _ (zL hi)) (hd.2.2 _ (zL hi2)) hs
   simp only[ei,zK z,zA,D1 hi,D1 hi2,zB,zE,getD_at hi,getD_at hi2,e5,zC,if_neg z,D8q (C6z _ _ _)]
   by_cases hz:(B5o d.1[i] d.2[i] s).2.1=0
   ·simp only[hz,zI,zT,zA,if_true]
   ·simp only[hz,zH,zU,zB,if_false];rfl
theorem C6x (x:C1):∀l:B25,(∀t∈l,t.1≠x.1)→∃p,p≤l.length∧tAt (B7q x l) x.1=(p:Int)∧B7q x l=l.take p++[x]++l.drop p
 |[],_=>⟨0,by simp,by simp[B7q,tAt,idx,idxFrom],by simp[B7q]⟩
 |y::l,h=>by
  simp only[B7q]
  split
  ·exact⟨0,by simp,by simp[tAt,idx,idxFrom],by simp⟩
  ·obtain⟨p,h1,h2,h3⟩:=C6x x l fun t ht=>h t (zF _ ht)
   refine⟨p+1,by simp;omega,?_,by rw[h3];simp⟩
   have hy:decide (y.1=x.1)=false:=zK (h y (zM ..))
   have e:tAt (y::B7q x l) x.1=idxFrom (fun t:C1=>decide (t.1=x.1)) (B7q x l) 1:=D90 (p:=fun t:C1=>decide (t.1=x.1)) hy
   rw[e]
   rcases C4h (fun t:C1=>decide (t.1=x.1)) (B7q x l) 1 with⟨_,g⟩|⟨m,_,g2,g3⟩
   ·have h2':idxFrom (fun t:C1=>decide (t.1=x.1)) (B7q x l) 0=(p:Int):=h2
    rw[g]at h2';omega
   ·have h2':idxFrom (fun t:C1=>decide (t.1=x.1)) (B7q x l) 0=(p:Int):=h2
    rw[g2]at h2'
    rw[g3];omega
theorem D97 {d:B7j}(hd:B68 d=true)(s:B32)(hn:tAt d.1 s.2.1<0):d.1.map (B4k d s)=d.2:=by
 obtain⟨hc,hl,_⟩:=B69 hd
 refine List.ext_getElem (by simp[hl]) fun j h1 h2=>?_
 have hj:j<d.1.length:=by simpa using h1
 rw[List.getElem_map,C35 hd s hj rfl,if_neg]
 intro e
 have:=C78.mpr ⟨d.1[j],zL hj,e⟩
 omega
theorem C92 {d:B7j}(hd:B68 d=true)(s:B32){i:Nat}(ei:tAt d.1 s.2.1=(i:Int)){j:Nat}(hj:j<d.1.length)(hne:j≠i):B4k d s d.1[j]=d.2[j]'(by have:=(C6n hd).1;omega):=by
 obtain⟨hc,hl,_⟩:=B69 hd
 rw[C35 hd s hj rfl,if_neg]
 intro e
 have:=D9y hc hj
 rw[e,ei]at this
 omega
theorem D98 {d:B7j}(hd:B68 d=true)(s:B32){i:Nat}(ei:tAt d.1 s.2.1=(i:Int)):(B2b d.1 i).map (B4k d s)=B2b d.2 i:=by
 obtain⟨hc,hl,_⟩:=B69 hd
 have h1:(d.1.take i).map (B4k d s)=d.2.take i:=by
  refine List.ext_getElem (by simp[hl]) fun j h1 h2=>?_
  simp only[List.length_map,List.length_take]at h1
  rw[List.getElem_map,List.getElem_take,List.getElem_take]
  exact C92 hd s ei (by omega) (by omega)
 have h2:(d.1.drop (i+1)).map (B4k d s)=d.2.drop (i+1):=by
  refine List.ext_getElem (by simp[hl]) fun j h1 h2=>?_
  simp only[List.length_map,List.length_drop]at h1
  rw[List.getElem_map,List.getElem_drop,List.getElem_drop]
  exact C92 hd s ei (by omega) (by omega)
 simp only[B2b,List.map_append,h1,h2]
theorem D99 {d:B7j}(hd:B68 d=true)(s:B32){i:Nat}(ei:tAt d.1 s.2.1=(i:Int))(hi:i<d.1.length){t:C1}(ht:t.1=d.1[i].1):
  (d.1.set i t).map (B4k d s)=d.2.set i (B4t d.1[i] (d.2[i]'(by have:=(C6n hd).1;omega)) s.2.2.2.2).1:=by
 obtain⟨hc,hl,_⟩:=B69 hd
 have hni:d.1[i].1=s.2.1:=by
  obtain⟨h,e⟩:=C4w (fun t:C1=>decide (t.1=s.2.1)) d.1 0 i (by rw[zS];exact ei)
  rwa[zG]at e
 refine List.ext_getElem (by simp[hl]) fun j h1 h2=>?_
 have hj:j<d.1.length:=by simpa using h1
 rw[List.getElem_map,List.getElem_set,List.getElem_set]
 split
 ·rename_i e;subst e
  rw[C35 hd s hi ht,if_pos hni]
 ·rename_i e
  exact C92 hd s ei hj fun h=>e h.symm
theorem D2v:EV fun n=>∀(d:B7j) (s:B32),C1o 1048576 d→B99 1048576 s→B68 d=true→B89 s=true→s.1=5→C15 n d.1 d.2 s.2.2.2.2.1 s.2.2.2.2.2.1 s.2.2.2.2.2.2.1 s.2.2.2.2.2.2.2.1 s.2.2.2.2.2.2.2.2.1 s.2.2.2.2.2.2.2.2.2=
  some (if(B39 d.1 s.2.2.2.2).2.1=0 then B9z d s else(D1t,((B39 d.1 s.2.2.2.2).2.1,()))):=(D1q.and (C6s.and (C10.and (D2s.and (EV.gt 100))))).up fun n ⟨h1,h2,h3,h4,hn⟩ d s hd hs ok sk k5=>by
 obtain⟨m,rfl⟩:∃m,n=m+1:=⟨n - 1,by omega⟩
 obtain⟨hc,hl,hrow⟩:=B69 ok
 obtain⟨dk,htb⟩:=D9x sk k5
 have hl6:=(C6n ok).2
 have hsm:=D1m hd.1 hs.2.2.2
 have e3:=fun l hl'=>h3 l s.2.2.2.2.2.1 hl'
 simp only[show∀l:B25,idx (fun t:C1=>decide (t.1=s.2.2.2.2.2.1)) l=tAt l s.2.1 from fun l=>by rw[htb];rfl]at e3
 simp only[C15,h1 d.1 s.2.2.2.2 hd.1 hs.2.2.2,zC,B4a,B2z,h2 d hd,e3 d.1 hd.1.1,e3 _ hsm.1]
 by_cases hz:(B39 d.1 s.2.2.2.2).2.1=0
 rotate_left
 ·simp only[hz,zH,zU,zB,if_false];rfl
 have hcode:B98 d.1 s.2.2.2.2=0:=by
  simp only[B39,hc,dk,and_self,if_true]at hz
  by_cases h:B98 d.1 s.2.2.2.2=0
  ·exact h
  ·rw[if_neg h]at hz;exact absurd hz h
 have hcat:(B39 d.1 s.2.2.2.2).1=B49 d.1 s.2.2.2.2:=by simp[B39,hc,dk,hcode]
 simp only[hz,zI,zT,zA,if_true,B9z,hcat]
 by_cases k1:s.2.2.2.2.1=1
 ·have hno:¬0≤tAt d.1 s.2.1:=fun h=>by
   simp only[B98,k1,if_true]at hcode
   rw[htb]at h
   rw[if_pos h]at hcode;cases hcode
  have hno':∀t∈d.1,t.1≠s.2.2.2.2.2.1:=fun t ht e=>hno (C78.mpr ⟨t,ht,e.trans htb.symm⟩)
  obtain⟨p,hp,ep,es⟩:=C6x (s.2.2.2.2.2.1,(s.2.2.2.2.2.2.1,s.2.2.2.2.2.2.2.1)) d.1 hno'
  have ep':tAt (B49 d.1 s.2.2.2.2) s.2.1=(p:Int):=by rw[htb];simp only[B49,k1,if_true];exact ep
  have hins:B1k 24 d.2 (p:Int) [([]:D1g)]=some (d.2.take p++[[]]++d.2.drop p):=E1m (by omega) (by simp only[room,zG];omega)
  simp only[k1,zI,zB,ep',B46,hins,zC]
  congr 3
  simp only[B49,k1,if_true]
  rw[es]
  have hm:=D97 ok s (by omega)
  simp only[List.map_append,List.map_cons,List.map_nil,List.map_take,List.map_drop,hm]
  congr 2
  simp only[B4k]
  rw[if_neg (by rw[←htb];exact hno)]
 obtain⟨i,ei,hi,hf⟩:=C2v hcode k1
 rw[←htb]at ei
 have hi2:i<d.2.length:=by omega
 simp only[k1,zH,zA,ei]
 by_cases k2:s.2.2.2.2.1=2
 ·simp only[k2,zI,zB,B45,D3 hi (by omega),E0z hi2,zC]
  congr 3
  simp only[B49,k2,show¬(2:Int)=1 by decide,if_false,if_true]
  rw[←htb,ei,zE,D98 ok s ei]
 ·have e4:=h4 d.1[i] d.2[i] s.2.2.2.2 (hd.1.2 _ (zL hi)) (hd.2.2 _ (zL hi2)) hs.2.2.2
  simp only[k2,zH,zA,D1 hi,D1 hi2,zB,zE,getD_at hi,getD_at hi2,e4,zC]
  congr 3
  simp only[B49,k1,k2,if_false]
  rw[←htb,ei,zE,getD_at hi,D99 ok s ei hi (t:=B2y d.1[i] s.2.2.2.2) rfl]
theorem D7w:EV fun n=>∀(d:B7j) (s:B32),C1o 1048576 d→B99 1048576 s→B68 d=true→B89 s=true→C73 n d.1 d.2 s.1 s.2.1 s.2.2.1 s.2.2.2.1 s.2.2.2.2.1 s.2.2.2.2.2.1 s.2.2.2.2.2.2.1 s.2.2.2.2.2.2.2.1 s.2.2.2.2.2.2.2.2.1 s.2.2.2.2.2.2.2.2.2=some (B59 d s):=(C10.and (D2v.and (C6q.and (C6r.and (C6p.and C6s))))).up fun n ⟨h1,h2,h3,h4,h5,h6⟩ d s hd hs ok sk=>by
 have e1:=h1 d.1 s.2.1 hd.1.1
 rw[show idx (fun t:C1=>decide (t.1=s.2.1)) d.1=tAt d.1 s.2.1 from rfl]at e1
 obtain⟨hc,hl,_⟩:=B69 ok
 simp only[C73,e1,h6 d hd,zC,B2z,B4a,B59]
 by_cases k5:s.1=5
 ·have e2:=h2 d s hd hs ok sk k5
  have key:∀(β:Type) (f:B7j×(Int×Unit)→Option β),(some (if(B39 d.1 s.2.2.2.2).2.1=0 then B9z d s else(D1t,((B39 d.1 s.2.2.2.2).2.1,())))).bind f=f (if(B39 d.1 s.2.2.2.2).2.1=0 then B9z d s else(D1t,((B39 d.1 s.2.2.2.2).2.1,()))):=fun _ _=>rfl
  simp only[k5,zI,zT,zB,zA,e2,key,ne_eq,not_true_eq_false,false_or,if_true]
  have fin:(bif !decide ((if(B39 d.1 s.2.2.2.2).2.1=0 then B9z d s else(D1t,((B39 d.1 s.2.2.2.2).2.1,()))).2.1=0)then
    some ((([]:B25),([]:B6l)),(IntKind.wrap .i64 ((10:Int)+(if(B39 d.1 s.2.2.2.2).2.1=0 then B9z d s else(D1t,((B39 d.1 s.2.2.2.2).2.1,()))).2.1),()))
    else some (((if(B39 d.1 s.2.2.2.2).2.1=0 then B9z d s else(D1t,((B39 d.1 s.2.2.2.2).2.1,()))).1.1,(if(B39 d.1 s.2.2.2.2).2.1=0 then B9z d s else(D1t,((B39 d.1 s.2.2.2.2).2.1,()))).1.2),(0,())))=some (B9z d s):=by
   by_cases hz:(B39 d.1 s.2.2.2.2).2.1=0
   ·have e:(B9z d s).2.1=0:=by simp[B9z,hz]
    have e':B9z d s=((B9z d s).1,(0,())):=by rw[B9z,if_pos hz]
    simp only[if_pos hz,e,zI,zT,zA]
    rw[e']
   ·simp only[if_neg hz,hz,zH,zU,zB,D8q (C4t d.1 s.2.2.2.2),B9z,if_false]
    rfl
  by_cases c:tAt d.1 s.2.1<0
  ·by_cases k1:s.2.2.2.2.1=1
   ·simp only[zD c,k1,zI,zB,zT,zA,not_true_eq_false,and_false,if_false]
    exact fin
   ·simp only[zD c,k1,zH,zB,zU,not_false_eq_true,and_true,if_pos c];rfl
  ·simp only[zK c,zA,c,false_and,if_false]
   exact fin
 ·simp only[k5,zH,zU,zB,zA,ne_eq,not_false_eq_true,true_or,and_true,if_false]
  rcases B96 d.1 s.2.1 with cn|⟨i,ei,hi⟩
  ·simp only[zD cn,zB,if_pos cn];rfl
  ·have z:¬((i:Int)<0):=by omega
   have hi2:i<d.2.length:=by omega
   have hx:=hd.1.2 _ (zL hi)
   have hr:=hd.2.2 _ (zL hi2)
   simp only[ei,zK z,zA,D1 hi,D1 hi2,zB,zE,getD_at hi,getD_at hi2,if_neg z]
   have w:=D8q (C6z d.1[i] d.2[i] s)
   by_cases k1:s.1=1
   ·have e:B5o d.1[i] d.2[i] s=B88 d.1[i] d.2[i] s.2.2.2.1:=by simp[B5o,k1]
    rw[e]at w
    simp only[k1,zI,zB,h3 d.1[i] d.2[i] _ hx hr hs.2.2.1.1,zC,w,e]
    by_cases hz:(B88 d.1[i] d.2[i] s.2.2.2.1).2.1=0
    ·simp only[hz,zI,zT,zA,if_true]
    ·simp only[hz,zH,zU,zB,if_false];rfl
   by_cases k2:s.1=2
   ·have e:B5o d.1[i] d.2[i] s=C0d d.1[i] d.2[i] s.2.2.1 s.2.2.2.1:=by simp[B5o,k2]
    rw[e]at w
    simp only[k2,show¬(2:Int)=1 by decide,zH,zA,zI,zB,h4 d.1[i] d.2[i] _ _ hx hr hs.2.1.1 hs.2.2.1.1,zC,w,e]
    by_cases hz:(C0d d.1[i] d.2[i] s.2.2.1 s.2.2.2.1).2.1=0
    ·simp only[hz,zI,zT,zA,if_true]
    ·simp only[hz,zH,zU,zB,if_false];rfl
   by_cases k3:s.1=3
   ·have e:B5o d.1[i] d.2[i] s=C0c d.1[i] d.2[i] s.2.2.1:=by simp[B5o,k3]
    rw[e]at w
    simp only[k3,show¬(3:Int)=1 by decide,show¬(3:Int)=2 by decide,zH,zA,zI,zB,h5 d.1[i] d.2[i] _ hx hr,zC,w,e]
    by_cases hz:(C0c d.1[i] d.2[i] s.2.2.1).2.1=0
    ·simp only[hz,zI,zT,zA,if_true]
    ·simp only[hz,zH,zU,zB,if_false];rfl
   ·have e:B5o d.1[i] d.2[i] s=([],(0,())):=by simp[B5o,k1,k2,k3,k5]
    simp only[k1,k2,k3,zH,zA,zI,zT,e,if_true]
theorem D7v:EV fun n=>∀(d:B7j) (s:B32),C1o 1048576 d→B99 1048576 s→C72 n d.1 d.2 s.1 s.2.1 s.2.2.1 s.2.2.2.1 s.2.2.2.2.1 s.2.2.2.2.2.1 s.2.2.2.2.2.2.1 s.2.2.2.2.2.2.2.1 s.2.2.2.2.2.2.2.2.1 s.2.2.2.2.2.2.2.2.2=some (C5d d s):=(C4y.and (D47.and D7w)).up fun n ⟨h1,h2,h3⟩ d s hd hs=>by
 simp only[C72,h1 d hd,h2 s hs,zC,C5d]
 cases ok:B68 d
 ·simp;rfl
 cases sk:B89 s
 ·simp;rfl
 simp only[zT,zA,and_self,if_true,h3 d s hd hs ok sk,zC]
theorem D3e:C1o 1048576 D1t:=⟨⟨Nat.zero_le _,fun x hx=>by cases hx⟩,⟨Nat.zero_le _,fun x hx=>by cases hx⟩⟩
theorem D9v {d:B7j}{s:B32}(hd:C1o 1048576 d)(hs:B99 1048576 s)(ok:B68 d=true)(t:C1):B34 1048576 (B4k d s t):=by
 obtain⟨hc,hl,_⟩:=B69 ok
 rcases B96 d.1 t.1 with c|⟨i,ei,hi⟩
 ·unfold B4k
  rw[if_neg (by omega)];exact B4l
 ·have hi2:i<d.2.length:=by omega
  have hr:=hd.2.2 _ (zL hi2)
  unfold B4k
  rw[if_pos (by omega),ei,zE,getD_at hi,getD_at hi2]
  split
  ·exact D2c (hd.1.2 _ (zL hi)) hr hs.2.2.2
  ·exact hr
theorem E08 {d:B7j}{s:B32}(hd:C1o 1048576 d)(hs:B99 1048576 s)(ok:B68 d=true):C1o 1048576 (B59 d s).1:=by
 obtain⟨hc,hl,_⟩:=B69 ok
 unfold B59
 split
 ·exact D3e
 rename_i h4
 split
 ·unfold B9z
  split
  ·have hsm:=D1m hd.1 hs.2.2.2
   refine⟨hsm,⟨by rw[List.length_map];exact hsm.1,fun r hr=>?_⟩⟩
   obtain⟨t,_,rfl⟩:=List.mem_map.mp hr
   exact D9v hd hs ok t
  ·exact D3e
 ·rename_i k5
  rcases B96 d.1 s.2.1 with c|⟨i,ei,hi⟩
  ·exact absurd ⟨c,.inl k5⟩ h4
  have hi2:i<d.2.length:=by omega
  rw[ei,zE,getD_at hi,getD_at hi2]
  split
  ·refine⟨hd.1,⟨by rw[List.length_set];exact hd.2.1,fun r hr=>?_⟩⟩
   rcases List.mem_or_eq_of_mem_set hr with e|e
   ·exact hd.2.2 r e
   ·rw[e];exact E0t (hd.1.2 _ (zL hi)) (hd.2.2 _ (zL hi2)) hs
  ·exact D3e
theorem E0q {d:B7j}{s:B32}(hd:C1o 1048576 d)(hs:B99 1048576 s):C1o 1048576 (C5d d s).1:=by
 unfold C5d
 split
 ·rename_i h;exact E08 hd hs h.1
 ·exact D3e
theorem D5u {l:B25}(h6:l.length≤6)(ht:∀t∈l,B27 t=true)(hs:∀k (hk:k+1<l.length),B87 l[k].1 l[k+1].1=true):B5r l=true:=by
 simp only[B5r,zD h6,zG1]
 refine(B43 _ _ _).mpr fun i hi=>?_
 simp only[zS,B3u,ht _ (zL hi),zG1,Bool.or_eq_true,zG]
 cases i with
 |zero=>exact .inl rfl
 |succ i=>
  right
  rw[Nat.add_sub_cancel,getD_at (show i<l.length by omega)]
  exact hs i hi
theorem D96 {l:B25}(h:B5r l=true):l.Pairwise fun a b=>B87 a.1 b.1=true:=
 List.pairwise_iff_getElem.mpr fun i j hi hj hij=>C8w h i j hij hj
theorem C6m {l:B25}(h6:l.length≤6)(ht:∀t∈l,B27 t=true)(hp:l.Pairwise fun a b=>B87 a.1 b.1=true):B5r l=true:=
 D5u h6 ht fun k hk=>List.pairwise_iff_getElem.mp hp k (k+1) (by omega) hk (by omega)
theorem D4d {t:C1}:∀{l:B25},(l.Pairwise fun a b=>B87 a.1 b.1=true)→(∀y∈l,y.1≠t.1)→(B7q t l).Pairwise fun a b=>B87 a.1 b.1=true
 |[],_,_=>by simp[B7q]
 |x::l,h,hn=>by
  obtain⟨h1,h2⟩:=List.pairwise_cons.mp h
  simp only[B7q]
  split
  ·rename_i c
   refine List.pairwise_cons.mpr ⟨fun y hy=>?_,h⟩
   rcases List.mem_cons.mp hy with e|e
   ·rw[e];exact c
   ·exact C6w c (h1 y e)
  ·rename_i c
   refine List.pairwise_cons.mpr ⟨fun y hy=>?_,D4d h2 fun y hy=>hn y (zF _ hy)⟩
   rcases C4l _ _ _ hy with e|e
   ·rw[e]
    exact D75 (by simpa using c) fun e=>hn x (zM ..) e.symm
   ·exact h1 y e
theorem D7x {l:B25}(h:l.Pairwise fun a b=>B87 a.1 b.1=true)(i:Nat):(B2b l i).Pairwise fun a b=>B87 a.1 b.1=true:=by
 refine h.sublist ?_
 unfold B2b
 rw[←List.eraseIdx_eq_take_drop_succ]
 exact List.eraseIdx_sublist ..
theorem E1p {l:B25}(h:l.Pairwise fun a b=>B87 a.1 b.1=true){i:Nat}(hi:i<l.length){t:C1}(ht:t.1=l[i].1):(l.set i t).Pairwise fun a b=>B87 a.1 b.1=true:=by
 have h':=List.pairwise_iff_getElem.mp h
 have hn:∀j (hj:j<l.length),((l.set i t)[j]'(by simpa using hj)).1=l[j].1:=fun j hj=>by
  rw[List.getElem_set]
  split
  ·rename_i e;subst e;exact ht
  ·rfl
 refine List.pairwise_iff_getElem.mpr fun a b ha hb hab=>?_
 rw[hn a (by simpa using ha),hn b (by simpa using hb)]
 exact h' a b _ _ hab
theorem D8v {cs:B2g}(hu:∀i j (hi:i<cs.length) (hj:j<cs.length),cs[i].1=cs[j].1→i=j){k:Nat}(hk:k<cs.length):D4 cs cs[k].1=(k:Int):=by
 have hp:0≤D4 cs cs[k].1:=C4x ⟨cs[k],zL hk,by simp⟩
 rcases B83 cs cs[k].1 with c|⟨i,e,hi,e2⟩
 ·omega
 ·rw[e]
  have:=hu i k hi hk e2
  rw[this]
theorem D5c {x:C1}(hw:B3c x.1=true)(h1:1≤x.2.1.length)(h8:x.2.1.length≤8)(hk:1≤x.2.2.length)(hc:∀c∈x.2.1,B67 c=true)
  (hu:∀i j (hi:i<x.2.1.length) (hj:j<x.2.1.length),x.2.1[i].1=x.2.1[j].1→i=j) (hr:(runs (B3s x.2.1) x.2.2 (-1)).isSome=true):B27 x=true:=by
 simp only[B27,hw,zD (And.intro h1 h8),zD hk,hr,Bool.and_true,zG1]
 refine(B43 _ _ _).mpr fun i hi=>?_
 rw[zS,hc _ (zL hi),D8v hu hi]
 simp
theorem D7b {cs cs':B2g}{f:ByteArray→ByteArray}{m:Int→Int}:∀{ks:B2f} {last:Int},(runs (B3s cs) ks last).isSome=true→ -1≤last→
  (∀k∈ks,D4 cs' (f k)=m (D4 cs k)∧(cs'.getD (D4 cs' (f k)).toNat CZ).2.2.1=true)→(∀k∈ks,last<D4 cs k→m last<m (D4 cs k))→
  (∀a∈ks,∀b∈ks,D4 cs a<D4 cs b→m (D4 cs a)<m (D4 cs b))→(runs (B3s cs') (ks.map f) (m last)).isSome=true
 |[],_,_,_,_,_,_=>rfl
 |k::ks,last,h,hl,h1,h2,h3=>by
  simp only[runs]at h
  unfold B3s at h
  split at h
  ·rename_i c
   obtain⟨e1,e2⟩:=h1 k (zM ..)
   simp only[List.map_cons,runs]
   unfold B3s
   rw[if_pos ⟨by rw[e1];exact h2 k (zM ..) c.1,e2⟩]
   have h0:(-1:Int)≤D4 cs k:=by have:=c.1;omega
   have:=D7b (cs:=cs) (cs':=cs') (f:=f) (m:=m) (ks:=ks) (last:=D4 cs k) h h0 (fun a ha=>h1 a (zF _ ha))
    (fun a ha=>h3 k (zM ..) a (zF _ ha)) (fun a ha b hb=>h3 a (zF _ ha) b (zF _ hb))
   rw[←e1]at this
   exact this
  ·cases h
theorem E0d {cs:B2g}{c:B4n}{s:ByteArray}(h:0≤D4 cs s):D4 (cs++[c]) s=D4 cs s:=by
 have:∀(l:B2g) (k:Nat),0≤idxFrom (fun c:B4n=>decide (c.1=s)) l k→idxFrom (fun c:B4n=>decide (c.1=s)) (l++[c]) k=idxFrom (fun c:B4n=>decide (c.1=s)) l k:=by
  intro l
  induction l with
  |nil=>intro k h;simp[idxFrom]at h
  |cons x l ih=>
   intro k h
   simp only[List.cons_append,idxFrom]at h⊢
   by_cases e:x.1=s
   ·simp[e]
   ·simp only[e,zH]at h⊢
    have:=ih (k+1) (by simpa using h)
    simpa using this
 exact this cs 0 h
theorem C74 {x:C1}(h:B27 x=true){k:ByteArray}(hk:k∈x.2.2):∃p:Nat,D4 x.2.1 k=(p:Int)∧∃hp:p<x.2.1.length,x.2.1[p].1=k∧x.2.1[p].2.2.1=true:=by
 obtain⟨a1,a2,a3⟩:=(B7h h).1 k hk
 rcases B83 x.2.1 k with c|⟨p,e,hp,e2⟩
 ·omega
 ·refine⟨p,e,hp,e2,?_⟩
  rw[e,zE,getD_at hp]at a3
  exact a3
theorem C97 {x:C1}(h:B27 x=true):B3c x.1=true:=by
 simp only[B27,zJ]at h
 exact h.1.1.1.1
theorem D2d {x:C1}(h:B27 x=true):1≤x.2.2.length:=by
 have:=D8m h
 cases hx:x.2.2 with
 |nil=>exact absurd hx this
 |cons a l=>simp
theorem D9z {x:C1}(h:B27 x=true):(runs (B3s x.2.1) x.2.2 (-1)).isSome=true:=by
 simp only[B27,zJ]at h
 exact h.2
def D0l (x:C1)(d:B2w)(p:Int):Int:=if d.1=4∧D4 x.2.1 d.2.2.2.2.1<p then p - 1 else p
theorem E0e {cs:B2g}{d:B2w}(k5:d.1=5)(hto:D4 cs d.2.2.2.2.2<0)(s:ByteArray)(hs:0≤D4 cs s):D4 (cs.map (B8k d)) (B4d d s)=D4 cs s:=by
 have hno:∀c∈cs,c.1≠d.2.2.2.2.2:=fun c hc e=>by
  have:=C4x (p:=fun c:B4n=>decide (c.1=d.2.2.2.2.2)) (l:=cs) ⟨c,hc,by simp[e]⟩
  have h2:0≤D4 cs d.2.2.2.2.2:=this
  omega
 have hsn:s≠d.2.2.2.2.2:=fun e=>by rw[e]at hs;omega
 have:∀(l:B2g) (k:Nat),(∀c∈l,c.1≠d.2.2.2.2.2)→idxFrom (fun c:B4n=>decide (c.1=B4d d s)) (l.map (B8k d)) k=idxFrom (fun c:B4n=>decide (c.1=s)) l k:=by
  intro l
  induction l with
  |nil=>intro k _;rfl
  |cons c l ih=>
   intro k hl
   have hc:=hl c (zM ..)
   have e:decide ((B8k d c).1=B4d d s)=decide (c.1=s):=by
    rw[decide_eq_decide]
    unfold B8k B4d
    simp only[k5,true_and]
    by_cases a:c.1=d.2.2.2.2.1
    ·by_cases b:s=d.2.2.2.2.1
     ·rw[if_pos a,if_pos b];exact⟨fun _=>a.trans b.symm,fun _=>rfl⟩
     ·rw[if_pos a,if_neg b];exact⟨fun h=>absurd h.symm hsn,fun h=>absurd (h.symm.trans a) b⟩
    ·by_cases b:s=d.2.2.2.2.1
     ·rw[if_neg a,if_pos b];exact⟨fun h=>absurd h hc,fun h=>absurd (h.trans b) a⟩
     ·rw[if_neg a,if_neg b]
   simp only[List.map_cons,idxFrom,e,ih (k+1) fun c hc=>hl c (zF _ hc)]
 exact this cs 0 hno
theorem D7r {x:C1}{d:B2w}(h:B27 x=true)(hk:B3m d=true)(hf:B4h x d=0)(k1:¬d.1=1)(k2:¬d.1=2){k:ByteArray}(hm:k∈x.2.2):
  D4 (B2y x d).2.1 (B4d d k)=D0l x d (D4 x.2.1 k)∧((B2y x d).2.1.getD (D4 (B2y x d).2.1 (B4d d k)).toNat CZ).2.2.1=true:=by
 obtain⟨p,ep,hp,e1,e2⟩:=C74 h hm
 have hu:=C4u h
 have kinds:=C4v hk
 by_cases k3:d.1=3
 ·rw[C4r k3]
  have ek:B4d d k=k:=by simp[B4d,k3]
  rw[ek]
  dsimp only
  rw[E0d (by omega),ep]
  refine⟨by simp[D0l,k3],?_⟩
  rw[zE,getD_at (by simp;omega),List.getElem_append_left hp]
  exact e2
 by_cases k5:d.1=5
 ·have hto:D4 x.2.1 d.2.2.2.2.2<0:=by
   simp only[B4h,k5,show¬(5:Int)=3 by decide,show¬(5:Int)=4 by decide,if_false,if_true]at hf
   split at hf
   ·cases hf
   ·omega
  rw[C25 k5]
  dsimp only
  rw[E0e k5 hto k (by omega),ep]
  refine⟨by simp[D0l,k5],?_⟩
  rw[zE,getD_at (by simpa using hp),List.getElem_map]
  unfold B8k
  split<;>exact e2
 have k4:d.1=4:=by rcases kinds with h|h|h|h|h<;>first|exact h|exact absurd h (by assumption)
 obtain⟨g,eg,hg⟩:=C3p k4 hf
 have hgn:x.2.1[g].1=d.2.2.2.2.1:=by
  rcases B83 x.2.1 d.2.2.2.2.1 with c|⟨q,eq,hq,e⟩
  ·omega
  ·have:q=g:=by omega
   subst this;exact e
 have hne:p≠g:=by
  rintro rfl
  simp only[B4h,k4,show¬(4:Int)=3 by decide,if_false,if_true]at hf
  rw[if_neg (by omega)]at hf
  split at hf
  ·cases hf
  ·rename_i hno
   exact hno ((D8z _ _).mpr (by rw[←hgn,e1];exact hm))
 have hbut:B74 x.2.1 d.2.2.2.2.1=B2b x.2.1 g:=by
  rcases C3k d.2.2.2.2.1 x.2.1 0 with⟨h1,_⟩|⟨m,h1,h2,h3⟩
  ·have:D4 x.2.1 d.2.2.2.2.1= -1:=h1
   omega
  ·have hmg:m=g:=by
    have:D4 x.2.1 d.2.2.2.2.1=((0+m:Nat):Int):=h2
    omega
   rw[h3,hmg]
   unfold B2b
   congr 1
   refine List.filter_eq_self.mpr fun c hc=>?_
   obtain⟨j,hj,rfl⟩:=List.mem_iff_getElem.mp hc
   rw[List.getElem_drop]
   simp only[List.length_drop]at hj
   rw[zK];rfl
   intro e
   have:=hu (g+1+j) g (by omega) hg (e.trans hgn.symm)
   omega
 rw[C4s k4]
 have ek:B4d d k=k:=by simp[B4d,k4]
 rw[ek]
 dsimp only
 rw[hbut]
 have hw:∀j (hj:j<(B2b x.2.1 g).length),∃h,(B2b x.2.1 g)[j]=x.2.1[(if j<g then j else j+1)]'h:=fun j hj=>by
  obtain⟨h,e⟩:=B7i hj
  exact⟨h,e⟩
 have hlen:(B2b x.2.1 g).length=x.2.1.length - 1:=by simp[B2b];omega
 have hu':∀i j (hi:i<(B2b x.2.1 g).length) (hj:j<(B2b x.2.1 g).length),(B2b x.2.1 g)[i].1=(B2b x.2.1 g)[j].1→i=j:=by
  intro i j hi hj e
  obtain⟨a1,a2⟩:=hw i hi
  obtain⟨b1,b2⟩:=hw j hj
  rw[a2,b2]at e
  have:=hu _ _ _ _ e
  split at this<;>split at this<;>omega
 obtain⟨q,hq,hq2⟩:∃q,q<(B2b x.2.1 g).length∧(if q<g then q else q+1)=p:=by
  by_cases c:p<g
  ·exact⟨p,by omega,by rw[if_pos c]⟩
  ·exact⟨p - 1,by omega,by rw[if_neg (by omega)];omega⟩
 obtain⟨a1,a2⟩:=hw q hq
 have hqe:(B2b x.2.1 g)[q]=x.2.1[p]:=by rw[a2];congr 1
 have e5:D4 (B2b x.2.1 g) k=(q:Int):=by
  have:=D8v hu' hq
  rw[hqe,e1]at this
  exact this
 rw[e5]
 refine⟨?_,by rw[zE,getD_at hq,hqe];exact e2⟩
 unfold D0l
 rw[eg,ep]
 split at hq2
 ·rw[if_neg (by rintro⟨_,h⟩;omega)];omega
 ·rw[if_pos ⟨k4,by omega⟩];omega
theorem D71 {x:C1}{d:B2w}{a b:Int}(ha:d.1=4→a≠D4 x.2.1 d.2.2.2.2.1)(h:a<b):D0l x d a<D0l x d b:=by
 unfold D0l
 by_cases k4:d.1=4
 ·have:=ha k4
  by_cases c1:D4 x.2.1 d.2.2.2.2.1<a
  ·rw[if_pos ⟨k4,c1⟩,if_pos ⟨k4,by omega⟩];omega
  ·rw[if_neg (fun h=>c1 h.2)]
   split
   ·omega
   ·exact h
 ·rw[if_neg (fun h=>k4 h.1),if_neg (fun h=>k4 h.1)];exact h
theorem C6u {x:C1}{d:B2w}(h:B27 x=true)(hf:B4h x d=0)(k4:d.1=4){k:ByteArray}(hm:k∈x.2.2):D4 x.2.1 k≠D4 x.2.1 d.2.2.2.2.1:=by
 intro e
 obtain⟨p,ep,hp,e1,_⟩:=C74 h hm
 rcases B83 x.2.1 d.2.2.2.2.1 with c|⟨q,eq,hq,e2⟩
 ·omega
 have hpq:p=q:=by omega
 subst hpq
 simp only[B4h,k4,show¬(4:Int)=3 by decide,if_false,if_true]at hf
 rw[if_neg (by omega)]at hf
 split at hf
 ·cases hf
 ·rename_i hno
  exact hno ((D8z _ _).mpr (by rw[←e2,e1];exact hm))
theorem E02 {d:B2w}(hk:B3m d=true)(k3:d.1=3):∃c,d.2.2.1=[c]∧B67 c=true∧(c.2.2.2.1=true∨c.2.2.1=false):=by
 obtain⟨c,hcs,hc⟩:=C2m hk k3
 refine⟨c,hcs,hc,?_⟩
 simp only[B3m,k3,show¬(3:Int)=1 by decide,show¬(3:Int)=2 by decide,if_false,if_true,hcs,zJ,Bool.or_eq_true,Bool.not_eq_true']at hk
 exact hk.2.1.1.1.2
theorem E2g {d:B2w}(hk:B3m d=true)(k5:d.1=5):B3c d.2.2.2.2.2=true:=by
 simp only[B3m,k5,show¬(5:Int)=1 by decide,show¬(5:Int)=2 by decide,show¬(5:Int)=3 by decide,show¬(5:Int)=4 by decide,if_false,if_true,zJ]at hk
 exact hk.2.2
theorem D72 {x:C1}{d:B2w}(h:B27 x=true)(hk:B3m d=true)(hf:B4h x d=0)(k1:¬d.1=1)(k2:¬d.1=2):B27 (B2y x d)=true:=by
 have hu:=C4u h
 obtain⟨_,hcol,h8,hl1⟩:=B7h h
 have hkeys:(B2y x d).2.2=x.2.2.map (B4d d):=rfl
 have hrun:(runs (B3s (B2y x d).2.1) (B2y x d).2.2 (-1)).isSome=true:=by
  rw[hkeys]
  have hneg:D0l x d (-1)= -1:=by
   unfold D0l
   split
   ·rename_i c
    obtain⟨g,eg,hg⟩:=C3p c.1 hf
    omega
   ·rfl
  have:=D7b (cs:=x.2.1) (cs':=(B2y x d).2.1) (f:=B4d d) (m:=D0l x d) (ks:=x.2.2) (last:= -1) (D9z h) (by omega) (fun k hm=>D7r h hk hf k1 k2 hm)
   (fun k hm hlt=>D71 (fun k4=>by obtain⟨g,eg,hg⟩:=C3p k4 hf;omega) hlt)
   (fun a ha b hb hlt=>D71 (fun k4=>C6u h hf k4 ha) hlt)
  rw[hneg]at this
  exact this
 have hk1:1≤(B2y x d).2.2.length:=by rw[hkeys,List.length_map];exact D2d h
 by_cases k3:d.1=3
 ·obtain⟨c,hcs,hc,_⟩:=E02 hk k3
  have hnew:∀y∈x.2.1,y.1≠c.1:=fun y hy e=>by
   have:0≤D4 x.2.1 c.1:=C4x ⟨y,hy,by simp[e]⟩
   simp only[B4h,k3,if_true,hcs,List.getD_cons_zero,if_pos this]at hf
   cases hf
  have hlt:x.2.1.length≠8:=fun e=>by
   simp only[B4h,k3,if_true]at hf
   split at hf
   ·cases hf
   ·first
     |(cases hf;done)
     |(rw[if_pos e]at hf;cases hf)
  have e:(B2y x d).2.1=x.2.1++[c]:=by rw[C4r k3,hcs];rfl
  refine D5c (show B3c (B2y x d).1=true from C97 (x:=x) h) (by rw[e];simp) (by rw[e];simp;omega) hk1 (fun y hy=>?_) (fun i j hi hj hij=>?_) hrun
  ·rw[e]at hy
   rcases zY.mp hy with hy|hy
   ·exact hcol y hy
   ·rw[zF1.mp hy];exact hc
  ·simp only[e,List.length_append,List.length_singleton]at hi hj
   simp only[e]at hij
   rw[List.getElem_append,List.getElem_append]at hij
   by_cases ci:i<x.2.1.length
   ·by_cases cj:j<x.2.1.length
    ·rw[dif_pos ci,dif_pos cj]at hij;exact hu i j ci cj hij
    ·rw[dif_pos ci,dif_neg cj]at hij
     simp only[List.getElem_singleton]at hij
     exact absurd hij (hnew _ (zL ci))
   ·by_cases cj:j<x.2.1.length
    ·rw[dif_neg ci,dif_pos cj]at hij
     simp only[List.getElem_singleton]at hij
     exact absurd hij.symm (hnew _ (zL cj))
    ·omega
 by_cases k5:d.1=5
 ·have hto:D4 x.2.1 d.2.2.2.2.2<0:=by
   simp only[B4h,k5,show¬(5:Int)=3 by decide,show¬(5:Int)=4 by decide,if_false,if_true]at hf
   split at hf
   ·cases hf
   ·omega
  have hno:∀c∈x.2.1,c.1≠d.2.2.2.2.2:=fun c hc e=>by
   have h2:0≤D4 x.2.1 d.2.2.2.2.2:=C4x ⟨c,hc,by simp[e]⟩
   omega
  have e:(B2y x d).2.1=x.2.1.map (B8k d):=by rw[C25 k5]
  refine D5c (show B3c (B2y x d).1=true from C97 (x:=x) h) (by rw[e];simpa using hl1) (by rw[e];simpa using h8) hk1 (fun y hy=>?_) (fun i j hi hj hij=>?_) hrun
  ·rw[e]at hy
   obtain⟨c,hc,rfl⟩:=List.mem_map.mp hy
   have:=hcol c hc
   unfold B8k
   split
   ·simp only[B67,zJ]at this⊢
    exact⟨⟨E2g hk k5,this.1.2⟩,this.2⟩
   ·exact this
  ·simp only[e,List.length_map]at hi hj
   simp only[e,List.getElem_map]at hij
   refine hu i j hi hj ?_
   unfold B8k at hij
   simp only[k5,true_and]at hij
   split at hij<;>split at hij
   ·rename_i a b;exact a.trans b.symm
   ·exact absurd hij.symm (hno _ (zL hj))
   ·exact absurd hij (hno _ (zL hi))
   ·exact hij
 have k4:d.1=4:=by rcases C4v hk with h|h|h|h|h<;>first|exact h|exact absurd h (by assumption)
 have e:(B2y x d).2.1=B74 x.2.1 d.2.2.2.2.1:=by rw[C4s k4]
 have hsub:(B74 x.2.1 d.2.2.2.2.1).Sublist x.2.1:=List.filter_sublist
 refine D5c (show B3c (B2y x d).1=true from C97 (x:=x) h) ?_ (by rw[e];exact Nat.le_trans hsub.length_le h8) hk1 (fun y hy=>hcol y (hsub.subset (by rw[←e];exact hy))) (fun i j hi hj hij=>?_) hrun
 · -- a key's column stays
  have hks:=D2d h
  obtain⟨k,hm⟩:∃k,k∈x.2.2:=⟨x.2.2[0],zL (by omega)⟩
  obtain⟨a1,_⟩:=D7r h hk hf k1 k2 hm
  obtain⟨p,ep,hp,_⟩:=C74 h hm
  have hn:=C6u h hf k4 hm
  have h0:0≤D4 (B2y x d).2.1 (B4d d k):=by
   rw[a1]
   unfold D0l
   obtain⟨g,eg,hg⟩:=C3p k4 hf
   split<;>omega
  rcases B83 (B2y x d).2.1 (B4d d k)with c|⟨q,eq,hq,_⟩
  ·omega
  ·omega
 ·have hp:x.2.1.Pairwise fun a b=>a.1≠b.1:=List.pairwise_iff_getElem.mpr fun a b ha hb hab ee=>by
   have:=hu a b ha hb ee;omega
  have hp':((B2y x d).2.1).Pairwise fun a b=>a.1≠b.1:=by rw[e];exact hp.sublist hsub
  have h2:=List.pairwise_iff_getElem.mp hp'
  rcases zE1 i j with c|c
  ·exact absurd hij (h2 i j hi hj c)
  ·rcases zE1 j i with c2|c2
   ·exact absurd hij.symm (h2 j i hj hi c2)
   ·omega
theorem C4m {cs:B2g}{r:B2e}:B3r cs r=true↔r.length=cs.length∧∀i (h1:i<cs.length) (h2:i<r.length),B84 cs[i] r[i]=true:=by
 simp only[B3r,zJ,zG]
 constructor
 ·rintro⟨h1,h2⟩
  refine⟨h1,fun i hi hi2=>?_⟩
  have:=C0l h2 hi
  rwa[getD_at hi2]at this
 ·rintro⟨h1,h2⟩
  refine⟨h1,(B43 _ _ _).mpr fun i hi=>?_⟩
  rw[zS,getD_at (show i<r.length by omega)]
  exact h2 i hi (by omega)
theorem D7t {c:B4n}(hc:B67 c=true)(hn:c.2.2.2.1=true∨c.2.2.1=false):B84 c c.2.2.2.2=true:=by
 simp only[B67,zJ,zG]at hc
 obtain⟨⟨_,ht⟩,hd⟩:=hc
 unfold B84
 by_cases hh:c.2.2.2.1=true
 ·rw[if_pos hh]at hd
  simp only[zJ,Bool.or_eq_true,zG]at hd
  simp only[hd.1,zG1]
  rcases hd.2 with e|⟨e,e2⟩
  ·rw[if_neg (by omega)];simpa using e
  ·rw[if_pos e];exact e2
 ·rw[if_neg hh]at hd
  have hnull:c.2.2.2.2=C0w:=by simpa using hd
  rw[hnull]
  have hz:c.2.2.1=false:=hn.resolve_left hh
  rw[hz]
  simp[C0w,B4i]
theorem D8u {x:C1}(h:B27 x=true){s:ByteArray}{g:Nat}(eg:D4 x.2.1 s=(g:Int))(hg:g<x.2.1.length):B74 x.2.1 s=B2b x.2.1 g:=by
 have hu:=C4u h
 have hgn:x.2.1[g].1=s:=by
  rcases B83 x.2.1 s with c|⟨q,eq,hq,e⟩
  ·omega
  ·have:q=g:=by omega
   subst this;exact e
 rcases C3k s x.2.1 0 with⟨h1,_⟩|⟨m,h1,h2,h3⟩
 ·have:D4 x.2.1 s= -1:=h1
  omega
 ·have hmg:m=g:=by
   have:D4 x.2.1 s=((0+m:Nat):Int):=h2
   omega
  rw[h3,hmg]
  unfold B2b
  congr 1
  refine List.filter_eq_self.mpr fun c hc=>?_
  obtain⟨j,hj,rfl⟩:=List.mem_iff_getElem.mp hc
  rw[List.getElem_drop]
  simp only[List.length_drop]at hj
  rw[zK];rfl
  intro e
  have:=hu (g+1+j) g (by omega) hg (e.trans hgn.symm)
  omega
theorem E1r {x:C1}{d:B2w}{r:B3q}(hk:B3m d=true)(hf:B4h x d=0)(k1:¬d.1=1)(k2:¬d.1=2)(h:B27 x=true)(hr:B3r x.2.1 r=true):B3r (B2y x d).2.1 (B76 x d r)=true:=by
 obtain⟨hl,hfit⟩:=C4m.mp hr
 by_cases k3:d.1=3
 ·obtain⟨c,hcs,hc,hn⟩:=E02 hk k3
  have e:B76 x d r=r++[c.2.2.2.2]:=by simp[B76,k3,hcs]
  have e2:(B2y x d).2.1=x.2.1++[c]:=by rw[C4r k3,hcs];rfl
  rw[e,e2]
  refine C4m.mpr ⟨by simp[hl],fun i h1 h2=>?_⟩
  rw[List.getElem_append,List.getElem_append]
  by_cases ci:i<x.2.1.length
  ·rw[dif_pos ci,dif_pos (by omega)];exact hfit i ci (by omega)
  ·rw[dif_neg ci,dif_neg (by omega)]
   simp only[List.getElem_singleton]
   exact D7t hc hn
 by_cases k5:d.1=5
 ·have e:B76 x d r=r:=by simp[B76,k5]
  have e2:(B2y x d).2.1=x.2.1.map (B8k d):=by rw[C25 k5]
  rw[e,e2]
  refine C4m.mpr ⟨by simp[hl],fun i h1 h2=>?_⟩
  rw[List.getElem_map]
  have:=hfit i (by simpa using h1) h2
  unfold B8k
  split
  ·exact this
  ·exact this
 have k4:d.1=4:=by rcases C4v hk with h|h|h|h|h<;>first|exact h|exact absurd h (by assumption)
 obtain⟨g,eg,hg⟩:=C3p k4 hf
 have e:B76 x d r=B2b r g:=by simp[B76,k4,eg]
 have e2:(B2y x d).2.1=B2b x.2.1 g:=by rw[C4s k4];exact D8u h eg hg
 rw[e,e2]
 have l1:(B2b x.2.1 g).length=x.2.1.length - 1:=by simp[B2b];omega
 have l2:(B2b r g).length=r.length - 1:=by simp[B2b];omega
 refine C4m.mpr ⟨by omega,fun i h1 h2=>?_⟩
 obtain⟨a1,a2⟩:=B7i h1
 obtain⟨b1,b2⟩:=B7i h2
 rw[a2,b2]
 exact hfit _ a1 b1
theorem D79 {x:C1}{d:B2w}{r:B3q}(hk:B3m d=true)(hf:B4h x d=0)(k1:¬d.1=1)(k2:¬d.1=2)(h:B27 x=true)(hr:B3r x.2.1 r=true):D5 (B2y x d).2.1 (B2y x d).2.2 (B76 x d r)=D5 x.2.1 x.2.2 r:=by
 obtain⟨hl,_⟩:=C4m.mp hr
 unfold D5
 rw[show(B2y x d).2.2=x.2.2.map (B4d d)from rfl,List.map_map]
 refine List.map_congr_left fun k hm=>?_
 simp only[Function.comp]
 obtain⟨a1,_⟩:=D7r h hk hf k1 k2 hm
 obtain⟨p,ep,hp,_⟩:=C74 h hm
 rw[a1,ep]
 by_cases k4:d.1=4
 ·obtain⟨g,eg,hg⟩:=C3p k4 hf
  have hn:=C6u h hf k4 hm
  have e:B76 x d r=B2b r g:=by simp[B76,k4,eg]
  have l2:(B2b r g).length=r.length - 1:=by simp[B2b];omega
  rw[e]
  unfold D0l
  rw[eg]
  by_cases c:g<p
  ·rw[if_pos ⟨k4,by omega⟩]
   have hq:p - 1<(B2b r g).length:=by omega
   rw[show((p:Int) - 1).toNat=p - 1 by omega,getD_at hq,zE,getD_at (show p<r.length by omega)]
   obtain⟨b1,b2⟩:=B7i hq
   rw[b2]
   congr 1
   rw[if_neg (by omega)];omega
  ·rw[if_neg (by rintro⟨_,h⟩;omega)]
   have hq:p<(B2b r g).length:=by omega
   rw[zE,getD_at hq,getD_at (show p<r.length by omega)]
   obtain⟨b1,b2⟩:=B7i hq
   rw[b2]
   congr 1
   rw[if_pos (by omega)]
 ·have ec:D0l x d (p:Int)=(p:Int):=by simp[D0l,k4]
  rw[ec,zE]
  by_cases k3:d.1=3
  ·have e:B76 x d r=r++[(d.2.2.1.getD 0 CZ).2.2.2.2]:=by simp[B76,k3]
   rw[e,getD_at (show p<(r++[(d.2.2.1.getD 0 CZ).2.2.2.2]).length by simp;omega),List.getElem_append_left (by omega),getD_at (show p<r.length by omega)]
  ·have e:B76 x d r=r:=by simp[B76,k3,k4]
   rw[e]
theorem D9u {x:C1}{l:A7d}{d:B2w}(hr:B2r x l=true)(hk:B3m d=true)(hf:B4h x d=0)(k1:¬d.1=1)(k2:¬d.1=2):B2r (B2y x d) (l.map (B76 x d))=true:=by
 obtain⟨ht,h60,hin⟩:=B3w hr
 refine C36 (D72 ht hk hf k1 k2) (by rw[List.length_map];exact h60) (fun r hm=>?_) fun k hk'=>?_
 ·obtain⟨r0,h0,rfl⟩:=List.mem_map.mp hm
  exact E1r hk hf k1 k2 ht (hin r0 h0)
 ·have hk2:k+1<l.length:=by simpa using hk'
  rw[List.getElem_map,List.getElem_map,D79 hk hf k1 k2 ht (hin _ (zL _)),D79 hk hf k1 k2 ht (hin _ (zL _))]
  exact C27 hr k (k+1) (by omega) hk2
theorem D77 {x:C1}{l:A7d}{r:B3q}(h:B2r x l=true)(hlen:l.length<60)(hr:B3r x.2.1 r=true)(hno:∀y∈l,D5 x.2.1 x.2.2 y≠D5 x.2.1 x.2.2 r):B2r x (B56 x l r)=true:=by
 obtain⟨ht,h60,hin⟩:=B3w h
 have hp:l.Pairwise fun a b=>B2x (D5 x.2.1 x.2.2 a) (D5 x.2.1 x.2.2 b)=true:=List.pairwise_iff_getElem.mpr fun i j hi hj hij=>C27 h i j hij hj
 have hv:∀y,B3r x.2.1 y=true→D92 (D5 x.2.1 x.2.2 y):=fun y hy=>C0q ht hy
 have hlk:∀a b:B3q,(D5 x.2.1 x.2.2 a).length=(D5 x.2.1 x.2.2 b).length:=fun a b=>by rw[B44,B44]
 have hdl:∀y∈l.dropWhile (C08 x r),B2x (D5 x.2.1 x.2.2 r) (D5 x.2.1 x.2.2 y)=true:=by
  cases hd:l.dropWhile (C08 x r)with
  |nil=>intro y hy;cases hy
  |cons z t=>
   have hsub:(z::t).Sublist l:=by rw[←hd];exact List.dropWhile_sublist _
   have hzl:z∈l:=hsub.subset (zM ..)
   have hz:C08 x r z=false:=by
    have:=List.head_dropWhile_not (C08 x r) (by rw[hd];simp:l.dropWhile (C08 x r)≠[])
    simpa[hd]using this
   have hrz:B2x (D5 x.2.1 x.2.2 r) (D5 x.2.1 x.2.2 z)=true:=by
    have:=(C3o (hlk z r) (hv z (hin z hzl)) (hv r hr)).2
    rw[zK (hno z hzl)]at this
    have hz':B2x (D5 x.2.1 x.2.2 z) (D5 x.2.1 x.2.2 r)=false:=hz
    rw[hz',Bool.false_or]at this
    exact this
   intro y hy
   rcases List.mem_cons.mp hy with e|e
   ·rw[e];exact hrz
   ·have hpz:=(List.pairwise_cons.mp (hp.sublist hsub)).1 y e
    have hyl:y∈l:=hsub.subset (zF _ e)
    exact C1z (hlk r z) (hlk z y) (hv r hr) (hv z (hin z hzl)) (hv y (hin y hyl)) hrz hpz
 have htk:∀y∈l.takeWhile (C08 x r),B2x (D5 x.2.1 x.2.2 y) (D5 x.2.1 x.2.2 r)=true:=fun y hy=>by
  have:=List.all_takeWhile (p:=C08 x r) (l:=l)
  exact List.all_eq_true.mp this y hy
 have hpp:(B56 x l r).Pairwise fun a b=>B2x (D5 x.2.1 x.2.2 a) (D5 x.2.1 x.2.2 b)=true:=by
  unfold B56
  rw[List.append_assoc]
  refine List.pairwise_append.mpr ⟨hp.sublist (List.takeWhile_sublist _),?_,fun a ha b hb=>?_⟩
  ·refine List.pairwise_cons.mpr ⟨fun y hy=>hdl y hy,hp.sublist (List.dropWhile_sublist _)⟩
  ·rcases List.mem_cons.mp hb with e|e
   ·rw[e];exact htk a ha
   ·have hal:a∈l:=(List.takeWhile_sublist _).subset ha
    have hbl:b∈l:=(List.dropWhile_sublist _).subset e
    exact C1z (hlk a r) (hlk r b) (hv a (hin a hal)) (hv r hr) (hv b (hin b hbl)) (htk a ha) (hdl b e)
 refine C36 ht (by rw[C34];omega) (fun y hy=>?_) fun k hk=>List.pairwise_iff_getElem.mp hpp k (k+1) (by omega) hk (by omega)
 rcases C91 hy with e|e
 ·exact hin y e
 ·rw[e];exact hr
theorem D4e {x:C1}(h:B27 x=true):B2r x []=true:=by simp[B2r,h,B3a]
theorem D1r {x:C1}{l:A7d}{key:B2e}(h:0≤B3v x l key):(B3v x l key).toNat<l.length:=by
 obtain⟨_,b2⟩:=C0z (fun r:B3q=>decide (D5 x.2.1 x.2.2 r=key)) l
 have:B3v x l key<(l.length:Int):=b2
 omega
theorem E0s {x:C1}{l:A7d}{s:B32}(h:B2r x l=true)(k5:¬s.1=5)(hz:(B5o x l s).2.1=0):B2r x (B5o x l s).1=true:=by
 unfold B5o at hz⊢
 split
 ·rename_i k1
  rw[if_pos k1]at hz
  unfold B88 at hz⊢
  rw[if_pos h]at hz⊢
  by_cases hr:B3r x.2.1 s.2.2.2.1=true
  ·rw[if_pos hr]at hz⊢
   by_cases c:0≤B3v x l (D5 x.2.1 x.2.2 s.2.2.2.1)
   ·rw[if_pos c]at hz;cases hz
   ·rw[if_neg c]at hz⊢
    by_cases c2:l.length=60
    ·rw[if_pos c2]at hz;cases hz
    ·rw[if_neg c2]
     exact D77 h (by have:=(B3w h).2.1;omega) hr (D3d c)
  ·rw[if_neg hr]at hz;cases hz
 rename_i k1
 rw[if_neg k1]at hz
 split
 ·rename_i k2
  rw[if_pos k2]at hz
  unfold C0d at hz⊢
  rw[if_pos h]at hz⊢
  by_cases hr:B3r x.2.1 s.2.2.2.1=true
  ·rw[if_pos hr]at hz⊢
   by_cases c:C2w x s.2.2.1=true∧0≤B3v x l s.2.2.1
   ·rw[if_pos c]at hz⊢
    by_cases c2:0≤B3v x (B2b l (B3v x l s.2.2.1).toNat) (D5 x.2.1 x.2.2 s.2.2.2.1)
    ·rw[if_pos c2]at hz;cases hz
    ·rw[if_neg c2]
     have hi:=D1r c.2
     refine D77 (C2q h _) ?_ hr (D3d c2)
     have:=(B3w h).2.1
     simp[B2b];omega
   ·rw[if_neg c]at hz;cases hz
  ·rw[if_neg hr]at hz;cases hz
 rename_i k2
 rw[if_neg k2]at hz
 split
 ·rename_i k3
  rw[if_pos k3]at hz
  unfold C0c at hz⊢
  rw[if_pos h]at hz⊢
  split
  ·exact C2q h _
  ·rename_i c
   rw[if_neg c]at hz;cases hz
 ·exact D4e (B3w h).1
theorem E2a {c:B25}{q:B6l}(hc:B5r c=true)(hl:q.length=c.length)(hr:∀i (h1:i<c.length) (h2:i<q.length),B2r c[i] q[i]=true):B68 (c,q)=true:=by
 simp only[B68,hc,hl,zI,zG1]
 refine(B43 _ _ _).mpr fun i hi=>?_
 rw[zS,getD_at (show i<q.length by omega)]
 exact hr i hi (by omega)
theorem E15 {d:B7j}{s:B32}(ok:B68 d=true)(sk:B89 s=true)(hz:(B59 d s).2.1=0):B68 (B59 d s).1=true:=by
 obtain⟨hc,hl,hrow⟩:=B69 ok
 have hcats:=B9o hc
 unfold B59 at hz⊢
 by_cases h4:tAt d.1 s.2.1<0∧(s.1≠5∨s.2.2.2.2.1≠1)
 ·rw[if_pos h4]at hz;cases hz
 rw[if_neg h4]at hz⊢
 by_cases k5:s.1=5
 ·rw[if_pos k5]at hz⊢
  obtain⟨dk,htb⟩:=D9x sk k5
  unfold B9z at hz⊢
  by_cases ha:(B39 d.1 s.2.2.2.2).2.1=0
  rotate_left
  ·rw[if_neg ha]at hz
   have:=(C4t d.1 s.2.2.2.2).1
   simp only at hz
   omega
  rw[if_pos ha]
  have hcode:B98 d.1 s.2.2.2.2=0:=by
   simp only[B39,hc,dk,and_self,if_true]at ha
   by_cases h:B98 d.1 s.2.2.2.2=0
   ·exact h
   ·rw[if_neg h]at ha;exact absurd ha h
  have hcat:(B39 d.1 s.2.2.2.2).1=B49 d.1 s.2.2.2.2:=by simp[B39,hc,dk,hcode]
  rw[hcat]
  have hp:=D96 hc
  have hold:∀j (hj:j<d.1.length),tAt d.1 s.2.1≠(j:Int)→B2r d.1[j] (B4k d s d.1[j])=true:=fun j hj hne=>by
   rw[C35 ok s hj rfl,if_neg]
   ·exact hrow j hj (by omega)
   ·intro e
    have:=D9y hc hj
    rw[e]at this
    exact hne this
  have key:B5r (B49 d.1 s.2.2.2.2)=true∧∀t∈B49 d.1 s.2.2.2.2,B2r t (B4k d s t)=true:=by
   by_cases k1:s.2.2.2.2.1=1
   ·have hno:¬0≤tAt d.1 s.2.1:=fun h=>by
     simp only[B98,k1,if_true]at hcode
     rw[htb]at h
     rw[if_pos h]at hcode;cases hcode
    have h6:d.1.length≠6:=fun e=>by
     simp only[B98,k1,if_true]at hcode
     rw[htb]at hno
     rw[if_neg hno,if_pos e]at hcode;cases hcode
    have hmade:=E1v dk k1
    have hn:∀t∈d.1,t.1≠s.2.2.2.2.2.1:=fun t ht e=>hno (C78.mpr ⟨t,ht,e.trans htb.symm⟩)
    simp only[B49,k1,if_true]
    refine⟨C6m (by rw[D1u];have:=hcats.1;omega) (fun t ht=>?_) (D4d hp hn),fun t ht=>?_⟩
    ·rcases C4l _ _ _ ht with e|e
     ·rw[e];exact hmade
     ·exact hcats.2 t e
    ·rcases C4l _ _ _ ht with e|e
     ·rw[e]
      unfold B4k
      rw[if_neg (by rw[←htb];exact hno)]
      exact D4e hmade
     ·obtain⟨j,hj,rfl⟩:=List.mem_iff_getElem.mp e
      exact hold j hj (by omega)
   obtain⟨i,ei,hi,hf⟩:=C2v hcode k1
   rw[←htb]at ei
   by_cases k2:s.2.2.2.2.1=2
   ·simp only[B49,k2,show¬(2:Int)=1 by decide,if_false,if_true]
    rw[←htb,ei,zE]
    refine⟨C6m (Nat.le_trans (C0u _ _) hcats.1) (fun t ht=>hcats.2 t (C0v ht)) (D7x hp i),fun t ht=>?_⟩
    obtain⟨k,hk,rfl⟩:=List.mem_iff_getElem.mp ht
    obtain⟨a1,a2⟩:=B7i hk
    rw[a2]
    refine hold _ a1 ?_
    rw[ei]
    intro e
    have:=Int.ofNat_inj.mp e
    split at this<;>omega
   ·have hrd:=D9u (hrow i hi (by omega)) dk hf k1 k2
    simp only[B49,k1,k2,if_false]
    rw[←htb,ei,zE,getD_at hi]
    have hname:(B2y d.1[i] s.2.2.2.2).1=d.1[i].1:=rfl
    refine⟨C6m (by rw[List.length_set];exact hcats.1) (fun t ht=>?_) (E1p hp hi hname),fun t ht=>?_⟩
    ·rcases List.mem_or_eq_of_mem_set ht with e|e
     ·exact hcats.2 t e
     ·rw[e];exact D72 (hcats.2 _ (zL hi)) dk hf k1 k2
    ·obtain⟨j,hj,rfl⟩:=List.mem_iff_getElem.mp ht
     have hj':j<d.1.length:=by simpa using hj
     rw[List.getElem_set]
     split
     ·rename_i e;subst e
      have hni:d.1[i].1=s.2.1:=by
       obtain⟨h,e⟩:=C4w (fun t:C1=>decide (t.1=s.2.1)) d.1 0 i (by rw[zS];exact ei)
       rwa[zG]at e
      rw[C35 ok s hi hname,if_pos hni]
      have:(B4t d.1[i] (d.2[i]'(by omega)) s.2.2.2.2).1=(d.2[i]'(by omega)).map (B76 d.1[i] s.2.2.2.2):=by
       unfold B4t
       rw[if_pos ⟨hrow i hi (by omega),dk,by rw[hni];exact htb.symm,k1⟩,if_pos hf,if_neg k2]
      rw[this]
      exact hrd
     ·rename_i e
      exact hold j hj' (by rw[ei];intro h;exact e (Int.ofNat_inj.mp h))
  refine E2a key.1 (by simp) fun i h1 h2=>?_
  rw[List.getElem_map]
  exact key.2 _ (zL h1)
 ·rw[if_neg k5]at hz⊢
  rcases B96 d.1 s.2.1 with c|⟨i,ei,hi⟩
  ·exact absurd ⟨c,.inl k5⟩ h4
  have hi2:i<d.2.length:=by omega
  rw[ei,zE,getD_at hi,getD_at hi2]at hz⊢
  by_cases hq:(B5o d.1[i] d.2[i] s).2.1=0
  rotate_left
  ·rw[if_neg hq]at hz
   have:=(C6z d.1[i] d.2[i] s).1
   simp only at hz
   omega
  rw[if_pos hq]
  refine E2a hc (by rw[List.length_set];exact hl) fun j h1 h2=>?_
  rw[List.getElem_set]
  split
  ·rename_i e;subst e
   exact E0s (hrow i hi hi2) k5 hq
  ·exact hrow j h1 (by simpa using h2)
theorem B2q.bind {α γ:Type}{b:List Int}{P:α→Prop}{Q:Option γ→Prop}{r:Option (α×(((List Int)×(Int×Int))×Unit))}{f:α×(((List Int)×(Int×Int))×Unit)→Option γ}
  (h:B2q b P r) (hf:∀x i g,0≤i→P x→Q (f (x,((b,(i,g)),())))):Q (r.bind f):=by
 obtain⟨x,i,g,rfl,hi,px⟩:=h
 exact hf x i g hi px
theorem B38 {γ:Type}{Q:Option γ→Prop}{c:Bool}{A B:Option γ}(h1:c=true→Q A)(h0:c=false→Q B):Q (bif c then A else B):=by
 cases c
 ·exact h0 rfl
 ·exact h1 rfl
theorem B9a {γ:Type}{Q:Option γ→Prop}{c:Bool}{A:Option γ}(hc:c=true)(h:Q A):Q (bif c then A else none):=by
 subst hc;exact h
theorem B2q.mk {α:Type}{b:List Int}{P:α→Prop}{x:α}{i g:Int}(hi:0≤i)(hp:P x):B2q b P (some (x,((b,(i,g)),()))):=⟨x,i,g,rfl,hi,hp⟩
theorem B2q.mono {α:Type}{b:List Int}{P Q:α→Prop}{r:Option (α×(((List Int)×(Int×Int))×Unit))}(h:B2q b P r)(hq:∀x,P x→Q x):B2q b Q r:=by
 obtain⟨x,i,g,e,hi,px⟩:=h
 exact⟨x,i,g,e,hi,hq x px⟩
theorem C4f {x:Int}{m n:Nat}(hm:0<m)(hn:m=n)(q:((0:Int)<(m:Int)→0≤x∧x<(m:Int))∧((m:Int)≤0→x=0)):inR x n=true:=by
 obtain⟨h1,h2⟩:=q.1 (by omega)
 exact zD ⟨h1,by omega⟩
theorem C0h {l:List ByteArray}{k:Nat}{m:Nat}(h:∀x∈l,x.size≤m):(l.getD k E0).size≤m:=by
 by_cases hk:k<l.length
 ·rw[getD_at hk];exact h _ (zL hk)
 ·rw[List.getD,List.getElem?_eq_none (by omega)];exact Nat.zero_le _
theorem C6o:EV fun n=>∀(b:List Int) (i h:Int),b.length≤1048576→0≤i→B2q b (fun s:ByteArray=>s.size≤9) (B5u n b i h):=B4o.up fun n hW b i h hb hi=>by
 simp only[B5u]
 refine(hW b i h 6 hb hi (by omega)).bind fun x i1 g1 p1 q1=>?_
 refine B9a (C4f (m:=6) (by decide) (by decide) q1) (.mk p1 (C0h ?_))
 decide
theorem C8y:EV fun n=>∀(b:List Int) (i h:Int) (w:ByteArray),b.length≤1048576→0≤i→w.size≤1048576→B2q b (B9f 1048576) (C0t n b i h w):=(B4o.and D1o).up fun n ⟨hW,hO⟩ b i h w hb hi hw=>by
 simp only[C0t]
 refine(hW b i h 3 hb hi (by omega)).bind fun x1 i1 g1 p1 q1=>?_
 refine(hW b i1 g1 3 hb p1 (by omega)).bind fun x2 i2 g2 p2 q2=>?_
 refine(hW b i2 g2 2 hb p2 (by omega)).bind fun x3 i3 g3 p3 q3=>?_
 refine B38 (fun _=>?_) fun _=> .mk p3 ⟨hw,Nat.zero_le _⟩
 refine(hO b i3 g3 _ hb p3).bind fun v i4 g4 p4 q4=>?_
 have hv:B97 1048576 v:=Nat.le_trans q4 (by decide)
 exact B38 (fun _=>B38 (fun _=> .mk p4 ⟨hw,Nat.zero_le _⟩) fun _=> .mk p4 ⟨hw,hv⟩) fun _=> .mk p4 ⟨hw,hv⟩
def B4z (m:Nat)(t:C1):Prop:=t.1.size≤9∧1≤t.2.1.length∧t.2.1.length≤m∧t.2.2.length≤m∧(∀c∈t.2.1,B9f 1048576 c)∧∀k∈t.2.2,k.size≤1048576
theorem B4z.mono {m n:Nat}{t:C1}(h:B4z m t)(hm:m≤n):B4z n t:=⟨h.1,h.2.1,by have:=h.2.2.1;omega,by have:=h.2.2.2.1;omega,h.2.2.2.2⟩
theorem B4z.sm {m:Nat}{t:C1}(h:B4z m t)(hm:m≤1048576):B2j 1048576 t:=⟨Nat.le_trans h.1 (by decide),⟨Nat.le_trans h.2.2.1 hm,h.2.2.2.2.1⟩,⟨Nat.le_trans h.2.2.2.1 hm,h.2.2.2.2.2⟩⟩
theorem E2s:B9f 1048576 CZ:=⟨Nat.zero_le _,Nat.zero_le _⟩
theorem D0n {l:B2g}{k:Nat}(h:∀c∈l,B9f 1048576 c):B9f 1048576 (l.getD k CZ):=by
 by_cases hk:k<l.length
 ·rw[getD_at hk];exact h _ (zL hk)
 ·rw[List.getD,List.getElem?_eq_none (by omega)];exact E2s
theorem E21 {l:B2g}{k:Nat}{c:B4n}(h:∀c∈l,B9f 1048576 c)(hc:B9f 1048576 c):∀x∈l.set k c,B9f 1048576 x:=by
 intro x hx
 rcases List.mem_or_eq_of_mem_set hx with e|e
 ·exact h x e
 ·rw[e];exact hc
theorem C2x:EV fun n=>∀(b:List Int) (i h:Int) (w:ByteArray),b.length≤1048576→0≤i→w.size≤9→B2q b (B4z 5) (B7g n b i h w):=(B4o.and (C6o.and (C8y.and (B91.and (EV.gt 10))))).up fun n ⟨hW,hS,hC,hA,hn⟩ b i h w hb hi hw=>by
 simp only[B7g]
 refine(hW b i h 4 hb hi (by omega)).bind fun x i1 g1 p1 q1=>?_
 have q1:=q1.1 (by omega)
 obtain⟨m,rfl⟩:=Int.eq_ofNat_of_zero_le q1.1
 have loop:∀(m j:Nat) (i g:Int) (e:ByteArray) (cs:B2g),m<j→0≤i→B4z 4 (w,(cs,[⟨#[105,100]⟩]))→cs.length+m≤4→B2q b (B4z 5) (B5e n j (m:Int) b i g e [] [] w cs [⟨#[105,100]⟩]):=by
  intro m
  induction m with
  |zero=>
   intro j i g e cs hj hi ht hm
   obtain⟨j,rfl⟩:∃j',j=j'+1:=⟨j - 1,by omega⟩
   have hl:=ht.2.1
   simp only at hl
   have w1:IntKind.wrap .i64 ((cs.length:Int) - (1:Int))=((cs.length - 1:Nat):Int):=by rw[wrap64]<;>omega
   have e0:decide ((0:Int)<((0:Nat):Int))=false:=rfl
   simp only[B5e,e0,zA,w1,D1 (show cs.length - 1<cs.length by omega),zB,zE]
   refine B38 (fun _=>B38 (fun _=>?_) fun _=> .mk hi (ht.mono (by omega))) fun _=> .mk hi (ht.mono (by omega))
   refine(hW b i g 3 hb hi (by omega)).bind fun x i2 g2 p2 q2=>?_
   refine B38 (fun _=>B9a (by simp[room]) (.mk p2 ?_)) fun _=> .mk p2 (ht.mono (by omega))
   refine⟨ht.1,ht.2.1,Nat.le_trans ht.2.2.1 (by omega),by simp,ht.2.2.2.2.1,fun k hk=>?_⟩
   rcases zY.mp hk with hk|hk
   ·exact ht.2.2.2.2.2 k hk
   ·rw[zF1.mp hk];exact(D0n ht.2.2.2.2.1).1
  |succ m ih=>
   intro j i g e cs hj hi ht hm
   obtain⟨j,rfl⟩:∃j',j=j'+1:=⟨j - 1,by omega⟩
   have e0:decide ((0:Int)<((m+1:Nat):Int))=true:=zD (by omega)
   have w1:IntKind.wrap .i64 (((m+1:Nat):Int) - (1:Int))=(m:Int):=by rw[wrap64]<;>omega
   simp only[B5e,e0,zB,w1]
   refine(hS b i g hb hi).bind fun s i2 g2 p2 q2=>?_
   have hs:s.size≤1048576:=Nat.le_trans q2 (by decide)
   have hcl:cs.length≤1048576:=by omega
   simp only[hA w cs [⟨#[105,100]⟩] s hcl,zC]
   refine B38 (fun _=>?_) fun _=>ih j i2 g2 e cs (by omega) p2 ht (by omega)
   refine(hC b i2 g2 s hb p2 hs).bind fun c i3 g3 p3 q3=>?_
   refine B9a (by simp[room];omega) (ih j i3 g3 e _ (by omega) p3 ?_ (by simp;omega))
   refine⟨ht.1,by simp,by simp;omega,ht.2.2.2.1,fun x hx=>?_,ht.2.2.2.2.2⟩
   rcases zY.mp hx with hx|hx
   ·exact ht.2.2.2.2.1 x hx
   ·rw[zF1.mp hx];exact q3
 refine loop m n i1 g1 E0 _ (by omega) p1 ⟨hw,by simp,by simp,by simp,fun c hc=>?_,fun k hk=>?_⟩ (by simp;omega)
 ·rw[zF1.mp hc];exact⟨by decide,Nat.zero_le _⟩
 ·rw[zF1.mp hk];decide
theorem in0 {m:Nat}(h:1≤m):inR (0:Int) m=true:=D1 (k:=0) h
theorem D5e {m:Nat}{nm:ByteArray}{cs:B2g}{ks:B2f}{k:Nat}{c:B4n}(h:B4z m (nm,(cs,ks)))(hc:B9f 1048576 c):B4z m (nm,(cs.set k c,ks)):=
 ⟨h.1,by have:=h.2.1;simpa using this,by have:=h.2.2.1;simpa using this,h.2.2.2.1,E21 h.2.2.2.2.1 hc,h.2.2.2.2.2⟩
theorem D5x:EV fun n=>∀(b:List Int) (i h:Int),b.length≤1048576→0≤i→B2q b (B4z 8) (C3u n b i h):=(B4o.and (C6o.and (C8x.and C2x))).up fun n ⟨hW,hS,hA,hT⟩ b i h hb hi=>by
 have k7:∀(i g:Int) (e1:ByteArray) (e2:B2g) (e3:B2f) (nm:ByteArray) (cs:B2g) (ks:B2f),0≤i→B4z 8 (nm,(cs,ks))→B2q b (B4z 8) (B9m n 1 b i g e1 e2 e3 nm cs ks):=by
  intro i g e1 e2 e3 nm cs ks hi ht
  simp only[B9m]
  exact .mk hi ht
 have k6:∀(k i g:Int) (e1:ByteArray) (e2:B2g) (e3:B2f) (nm:ByteArray) (cs:B2g) (ks:B2f),0≤i→B4z 8 (nm,(cs,ks))→B2q b (B4z 8) (B9l n 1 k b i g e1 e2 e3 nm cs ks):=by
  intro k i g e1 e2 e3 nm cs ks hi ht
  simp only[B9l]
  exact B38 (fun _=>B9a (in0 ht.2.1) (k7 _ _ _ _ _ _ _ _ hi (D5e ht (D0n ht.2.2.2.2.1)))) fun _=>k7 _ _ _ _ _ _ _ _ hi ht
 have k5:∀(k i g:Int) (e1:ByteArray) (e2:B2g) (e3:B2f) (nm:ByteArray) (cs:B2g) (ks:B2f),0≤i→B4z 8 (nm,(cs,ks))→B2q b (B4z 8) (B9k n 1 k b i g e1 e2 e3 nm cs ks):=by
  intro k i g e1 e2 e3 nm cs ks hi ht
  simp only[B9k]
  exact B38 (fun _=>k6 _ _ _ _ _ _ _ _ _ hi ⟨ht.1,ht.2.1,ht.2.2.1,Nat.zero_le _,ht.2.2.2.2.1,fun k hk=>by cases hk⟩) fun _=>k6 _ _ _ _ _ _ _ _ _ hi ht
 have k4:∀(k c i g:Int) (e1:ByteArray) (e2:B2g) (e3:B2f) (nm:ByteArray) (cs:B2g) (ks:B2f),0≤i→inR c cs.length=true→B4z 7 (nm,(cs,ks))→B2q b (B4z 8) (B9j n 1 k c b i g e1 e2 e3 nm cs ks):=by
  intro k c i g e1 e2 e3 nm cs ks hi hc ht
  simp only[B9j]
  have hl:=ht.2.2.1
  simp only at hl
  refine B38 (fun _=>B9a hc (B9a (by simp[room];omega) (k5 _ _ _ _ _ _ _ _ _ hi ⟨ht.1,by simp,by simp;omega,Nat.le_trans ht.2.2.2.1 (by decide),fun x hx=>?_,ht.2.2.2.2.2⟩))) fun _=>k5 _ _ _ _ _ _ _ _ _ hi (ht.mono (by decide))
  rcases zY.mp hx with hx|hx
  ·exact ht.2.2.2.2.1 x hx
  ·rw[zF1.mp hx];exact D0n (l:=cs) ht.2.2.2.2.1
 have k3:∀(k c i g:Int) (e1:ByteArray) (e2:B2g) (e3:B2f) (nm:ByteArray) (cs:B2g) (ks:B2f),0≤i→inR c cs.length=true→B4z 6 (nm,(cs,ks))→B2q b (B4z 8) (B9i n 1 k c b i g e1 e2 e3 nm cs ks):=by
  intro k c i g e1 e2 e3 nm cs ks hi hc ht
  simp only[B9i]
  have hl:=ht.2.2.2.1
  simp only at hl
  refine B38 (fun _=>?_) fun _=>k4 _ _ _ _ _ _ _ _ _ _ hi hc (ht.mono (by decide))
  refine(hS b i g hb hi).bind fun s i2 g2 p2 q2=>?_
  refine B9a (by simp[room];omega) (k4 _ _ _ _ _ _ _ _ _ _ p2 hc ⟨ht.1,ht.2.1,Nat.le_trans ht.2.2.1 (by decide),by simp;omega,ht.2.2.2.2.1,fun x hx=>?_⟩)
  rcases zY.mp hx with hx|hx
  ·exact ht.2.2.2.2.2 x hx
  ·rw[zF1.mp hx];exact Nat.le_trans q2 (by decide)
 have k2:∀(k c i g:Int) (e1:ByteArray) (e2:B2g) (e3:B2f) (nm:ByteArray) (cs:B2g) (ks:B2f),0≤i→inR c cs.length=true→B4z 6 (nm,(cs,ks))→B2q b (B4z 8) (B9h n 1 k c b i g e1 e2 e3 nm cs ks):=by
  intro k c i g e1 e2 e3 nm cs ks hi hc ht
  simp only[B9h]
  refine B38 (fun _=>?_) fun _=>k3 _ _ _ _ _ _ _ _ _ _ hi hc ht
  refine(hA b i g hb hi).bind fun v i2 g2 p2 q2=>?_
  exact B9a hc (k3 _ _ _ _ _ _ _ _ _ _ p2 (by rw[List.length_set];exact hc) (D5e ht ⟨(D0n (l:=cs) ht.2.2.2.2.1).1,Nat.le_trans q2 (by decide)⟩))
 have k1:∀(k c i g:Int) (e1:ByteArray) (e2:B2g) (e3:B2f) (nm:ByteArray) (cs:B2g) (ks:B2f),0≤i→inR c cs.length=true→B4z 6 (nm,(cs,ks))→B2q b (B4z 8) (B9g n 1 k c b i g e1 e2 e3 nm cs ks):=by
  intro k c i g e1 e2 e3 nm cs ks hi hc ht
  simp only[B9g]
  refine B38 (fun _=>?_) fun _=>k2 _ _ _ _ _ _ _ _ _ _ hi hc ht
  refine(hW b i g 6 hb hi (by omega)).bind fun v i2 g2 p2 q2=>?_
  exact B9a hc (k2 _ _ _ _ _ _ _ _ _ _ p2 (by rw[List.length_set];exact hc) (D5e ht (D0n (l:=cs) ht.2.2.2.2.1)))
 simp only[C3u]
 refine(hT b i h _ hb hi (by decide)).bind fun t i1 g1 p1 q1=>?_
 have hl1:=q1.2.1
 have hl5:=q1.2.2.1
 refine(hW b i1 g1 14 hb p1 (by omega)).bind fun x i2 g2 p2 q2=>?_
 refine(hW b i2 g2 (t.2.1.length:Int) hb p2 (by omega)).bind fun y i3 g3 p3 q3=>?_
 have hy:=C4f (show 0<t.2.1.length by omega) rfl q3
 refine B38 (fun _=>?_) fun _=>k1 _ _ _ _ _ _ _ _ _ _ p3 hy (q1.mono (by decide))
 refine(hW b i3 g3 3 hb p3 (by omega)).bind fun z i4 g4 p4 q4=>?_
 refine B9a (C4f (m:=3) (by decide) (by decide) q4) (k1 _ _ _ _ _ _ _ _ _ _ p4 hy ?_)
 have:=q1.mono (n:=6) (by decide)
 exact⟨C0h (by decide),this.2⟩
theorem D8l {l:B25}{m:Nat}{t:C1}(h:∀x∈l,B4z m x)(ht:B4z m t):∀x∈l++[t],B4z m x:=by
 intro x hx
 rcases zY.mp hx with hx|hx
 ·exact h x hx
 ·rw[zF1.mp hx];exact ht
def C4p (k:Nat)(l:B25):Prop:=l.length≤k∧∀x∈l,B4z 8 x
theorem room_le {m n k:Nat}(h:m≤n)(hn:n*k≤140737488355328)(hk:n≤140737488355328):room m k=true:=by
 simp only[room,zG]
 exact⟨Nat.le_trans (Nat.mul_le_mul_right k h) hn,Nat.le_trans h hk⟩
theorem D41:EV fun n=>∀(b:List Int) (i h:Int),b.length≤1048576→0≤i→B2q b (C4p 3) (C2b n b i h):=(B4o.and (C2x.and (EV.gt 10))).up fun n ⟨hW,hT,hn⟩ b i h hb hi=>by
 have loop:∀(t j k:Nat) (i g:Int) (e:B25) (cs:B25),k+t=3→t<j→0≤i→cs.length≤k→(∀x∈cs,B4z 8 x)→B2q b (C4p 3) (B6c n j (3:Int) (k:Int) b i g e cs [⟨#[111]⟩,⟨#[116]⟩,⟨#[117]⟩]):=by
  intro t
  induction t with
  |zero=>
   intro j k i g e cs hk hj hi hc hm
   obtain⟨j,rfl⟩:∃j',j=j'+1:=⟨j - 1,by omega⟩
   have e0:decide ((k:Int)<(3:Int))=false:=zK (by omega)
   simp only[B6c,e0,zA]
   exact .mk hi ⟨by omega,hm⟩
  |succ t ih=>
   intro j k i g e cs hk hj hi hc hm
   obtain⟨j,rfl⟩:∃j',j=j'+1:=⟨j - 1,by omega⟩
   have e0:decide ((k:Int)<(3:Int))=true:=zD (by omega)
   have hr:inR (k:Int) (List.length [(⟨#[111]⟩:ByteArray),⟨#[116]⟩,⟨#[117]⟩])=true:=D1 (show k<3 by omega)
   simp only[B6c,e0,zB,hr,D3 (show k<3 by omega) (by omega)]
   refine(hW b i g 3 hb hi (by omega)).bind fun x i2 g2 p2 q2=>?_
   refine B38 (fun _=>?_) fun _=>ih j (k+1) i2 g2 e cs (by omega) (by omega) p2 (by omega) hm
   refine(hT b i2 g2 _ hb p2 (C0h (by decide))).bind fun t i3 g3 p3 q3=>?_
   exact B9a (room_le (n:=10) (by simp;omega) (by decide) (by decide)) (ih j (k+1) i3 g3 e _ (by omega) (by omega) p3 (by simp;omega) (D8l hm (q3.mono (by decide))))
 simp only[C2b]
 exact loop 3 n 0 i h [] [] (by omega) (by omega) hi (Nat.zero_le _) (fun x hx=>by cases hx)
theorem D5v:EV fun n=>∀(b:List Int) (i h:Int),b.length≤1048576→0≤i→B2q b (C4p 9) (C1d n b i h):=(B4o.and (D41.and (C2x.and (D5x.and (EV.gt 20))))).up fun n ⟨hW,hC,hT,hA,hn⟩ b i h hb hi=>by
 have k4:∀(i g:Int) (e cs:B25),0≤i→C4p 9 cs→B2q b (C4p 9) (B79 n 1 b i g e cs):=by
  intro i g e cs hi h
  simp only[B79]
  exact .mk hi h
 have loop:∀(m t j k:Nat) (i g:Int) (e:B25) (cs:B25) (ws:B2f),(∀w∈ws,w.size≤9)→m≤7→k+t=m→t<j→0≤i→cs.length≤k→(∀x∈cs,B4z 8 x)→B2q b (C4p 9) (B58 n j 0 m (m:Int) (k:Int) b i g e cs ws):=by
  intro m t
  induction t with
  |zero=>
   intro j k i g e cs ws hws h7 hk hj hi hc hm
   obtain⟨j,rfl⟩:∃j',j=j'+1:=⟨j - 1,by omega⟩
   have e0:decide ((k:Int)<(m:Int))=false:=zK (by omega)
   simp only[B58,e0,zA]
   exact k4 _ _ _ _ hi ⟨by omega,hm⟩
  |succ t ih=>
   intro j k i g e cs ws hws h7 hk hj hi hc hm
   obtain⟨j,rfl⟩:∃j',j=j'+1:=⟨j - 1,by omega⟩
   have e0:decide ((k:Int)<(m:Int))=true:=zD (by omega)
   simp only[B58,e0,zB,D1 (show k<m by omega),D3 (show k<m by omega) (by omega)]
   refine(hT b i g _ hb hi (C0h hws)).bind fun t i3 g3 p3 q3=>?_
   exact B9a (room_le (n:=10) (by simp;omega) (by decide) (by decide)) (ih j (k+1) i3 g3 e _ ws hws h7 (by omega) (by omega) p3 (by simp;omega) (D8l hm (q3.mono (by decide))))
 have k2:∀(k i g:Int) (e cs:B25),0≤i→C4p 9 cs→B2q b (C4p 9) (B57 n 1 k b i g e cs):=by
  intro k i g e cs hi h
  simp only[B57]
  refine B38 (fun _=>?_) fun _=>k4 _ _ _ _ hi h
  refine(hW b i g 2 hb hi (by omega)).bind fun x i2 g2 p2 q2=>?_
  have q2:=q2.1 (by omega)
  obtain⟨m,rfl⟩:=Int.eq_ofNat_of_zero_le q2.1
  have w1:IntKind.wrap .i64 ((6:Int)+(m:Int))=((6+m:Nat):Int):=by rw[wrap64]<;>omega
  have e1:decide (0≤((0:Nat):Int)∧((0:Nat):Int)≤((6+m:Nat):Int)∧((6+m:Nat):Int)≤(List.length [(⟨#[102]⟩:ByteArray),⟨#[103]⟩,⟨#[104]⟩,⟨#[105]⟩,⟨#[106]⟩,⟨#[107]⟩,⟨#[108]⟩]:Int))=true:=zD (by simp;omega)
  simp only[w1,e1,zB,zE,Nat.sub_zero]
  exact loop (6+m) (6+m) n 0 i2 g2 e [] _ (by decide) (by omega) (by omega) (by omega) p2 (Nat.le_refl 0) (fun x hx=>by cases hx)
 have k1:∀(k i g:Int) (e cs:B25),0≤i→C4p 9 cs→B2q b (C4p 9) (B78 n 1 k b i g e cs):=by
  intro k i g e cs hi h
  simp only[B78]
  refine B38 (fun _=>B38 (fun hp=>?_) fun _=>k2 _ _ _ _ _ hi h) fun _=>k2 _ _ _ _ _ hi h
  have hp:1≤cs.length:=by
   have:=of_decide_eq_true hp;omega
  refine B9a (in0 hp) (k2 _ _ _ _ _ hi ⟨by rw[List.length_set];exact h.1,fun x hx=>?_⟩)
  rcases List.mem_or_eq_of_mem_set hx with e|e
  ·exact h.2 x e
  ·have h0:cs.getD (0:Int).toNat C19∈cs:=by
    rw[show(0:Int).toNat=0 from rfl,getD_at (show 0<cs.length by omega)];exact zL _
   rw[e]
   exact⟨(by decide:(⟨#[122]⟩:ByteArray).size≤9),(h.2 _ h0).2⟩
 simp only[C1d]
 refine(hC b i h hb hi).bind fun cs i1 g1 p1 q1=>?_
 refine(hW b i1 g1 10 hb p1 (by omega)).bind fun x i2 g2 p2 q2=>?_
 have h3:=q1.1
 refine B38 (fun _=>?_) fun _=>k1 _ _ _ _ _ p2 ⟨Nat.le_trans h3 (by decide),q1.2⟩
 refine(hA b i2 g2 hb p2).bind fun t i3 g3 p3 q3=>?_
 exact B9a (room_le (n:=10) (by simp;omega) (by decide) (by decide)) (k1 _ _ _ _ _ p3 ⟨by simp;omega,D8l q1.2 q3⟩)
theorem D43:EV fun n=>∀(b:List Int) (i h:Int) (t:C1),b.length≤1048576→0≤i→t.2.1.length≤20→B2q b (fun r:B2e=>r.length=t.2.1.length∧∀v∈r,B97 1048576 v) (B8f n b i h t.1 t.2.1 t.2.2):=(D1o.and (EV.gt 30)).up fun n ⟨hO,hn⟩ b i h t hb hi ht=>by
 obtain⟨nm,cs,ks⟩:=t
 simp only at ht⊢
 have loop:∀(m j k:Nat) (i g:Int) (e r:B2e),k+m=cs.length→m<j→0≤i→r.length=k→(∀v∈r,B97 1048576 v)→B2q b (fun r:B2e=>r.length=cs.length∧∀v∈r,B97 1048576 v) (B40 n j cs (cs.length:Int) (k:Int) b i g e r):=by
  intro m
  induction m with
  |zero=>
   intro j k i g e r hk hj hi hr hv
   obtain⟨j,rfl⟩:∃j',j=j'+1:=⟨j - 1,by omega⟩
   have e0:decide ((k:Int)<(cs.length:Int))=false:=zK (by omega)
   simp only[B40,e0,zA]
   exact .mk hi ⟨by omega,hv⟩
  |succ m ih=>
   intro j k i g e r hk hj hi hr hv
   obtain⟨j,rfl⟩:∃j',j=j'+1:=⟨j - 1,by omega⟩
   have e0:decide ((k:Int)<(cs.length:Int))=true:=zD (by omega)
   have hk1:k<cs.length:=by omega
   simp only[B40,e0,zB,D1 hk1,D3 hk1 (by omega)]
   refine(hO b i g _ hb hi).bind fun v i2 g2 p2 q2=>?_
   have hv2:B97 1048576 v:=Nat.le_trans q2 (by decide)
   have inner:∀(q j2 x:Nat) (i g:Int) (c:B4n) (v:B6p),x+q=9→q<j2→0≤i→B97 1048576 v→
     B2q b (fun r:B2e=>r.length=cs.length∧∀v∈r,B97 1048576 v) (B6x n (fun y40 y41 y42 y43 y44 y45 y46 y47=>B40 n j y40 y41 y42 y43 y44 y45 y46 y47) j2 (x:Int) cs (cs.length:Int) (k:Int) b i g e r c.1 c.2.1 c.2.2.1 c.2.2.2.1 c.2.2.2.2.1 c.2.2.2.2.2.1 c.2.2.2.2.2.2 v.1 v.2.1 v.2.2):=by
    intro q
    have fin:∀(i g:Int) (v:B6p),0≤i→B97 1048576 v→B2q b (fun r:B2e=>r.length=cs.length∧∀v∈r,B97 1048576 v) (B40 n j cs (cs.length:Int) ((k+1:Nat):Int) b i g e (r++[v])):=by
     intro i g v hi hsv
     refine ih j (k+1) i g e _ (by omega) (by omega) hi (by simp;omega) fun x hx=>?_
     rcases zY.mp hx with hx|hx
     ·exact hv x hx
     ·rw[zF1.mp hx];exact hsv
    have hroom:∀v:B6p,room (r.length+[v].length) 32=true:=fun v=>room_le (n:=40) (by simp;omega) (by decide) (by decide)
    induction q with
    |zero=>
     intro j2 x i g c v hx hj2 hi hsv
     obtain⟨j2,rfl⟩:∃j',j2=j'+1:=⟨j2 - 1,by omega⟩
     have e0:decide ((x:Int)<(9:Int))=false:=zK (by omega)
     simp only[B6x,e0,zA,D3 hk1 (by omega)]
     exact B9a (hroom _) (fin i g v hi hsv)
    |succ q ih2=>
     intro j2 x i g c v hx hj2 hi hsv
     obtain⟨j2,rfl⟩:∃j',j2=j'+1:=⟨j2 - 1,by omega⟩
     have e0:decide ((x:Int)<(9:Int))=true:=zD (by omega)
     simp only[B6x,e0,zB,D3 hk1 (by omega),D3 (show x<9 by omega) (by omega)]
     refine B38 (fun _=>B38 (fun _=>?_) fun _=>B9a (hroom _) (fin i g v hi hsv)) fun _=>B9a (hroom _) (fin i g v hi hsv)
     refine(hO b i g _ hb hi).bind fun v2 i2 g2 p2 q2=>?_
     exact ih2 j2 (x+1) i2 g2 c v2 (by omega) (by omega) p2 (Nat.le_trans q2 (by decide))
   exact inner 9 n 0 i2 g2 (cs.getD k CZ) v (by omega) (by omega) p2 hv2
 simp only[B8f]
 exact loop cs.length n 0 i h [] [] (by omega) (by omega) hi rfl (fun v hv=>by cases hv)
theorem D9o {x:C1}{l:A7d}{r:B3q}(_:B2j 1048576 x)(hl:B34 1048576 l)(hr:C39 1048576 r):B34 1048576 (B88 x l r).1:=by
 unfold B88
 split
 ·rename_i h
  have h60:=(B3w h).2.1
  split
  ·split
   ·exact B4l
   ·split
    ·exact B4l
    ·refine⟨by rw[C34];omega,fun y hy=>?_⟩
     rcases C91 hy with e|e
     ·exact hl.2 y e
     ·rw[e];exact hr
  ·exact B4l
 ·exact B4l
theorem D8x:EV fun n=>∀(b:List Int) (i h:Int) (t:C1),b.length≤1048576→0≤i→t.2.1.length≤20→B2j 1048576 t→1≤t.2.1.length→B2q b (fun l:A7d=>B34 1048576 l∧l.length≤60∧∀r∈l,1≤r.length) (B9w n b i h t.1 t.2.1 t.2.2):=(B4o.and (D43.and (C1a.and (EV.gt 10)))).up fun n ⟨hW,hR,hP,hn⟩ b i h t hb hi ht hs h1=>by
 have loop:∀(m j:Nat) (i g:Int) (l:A7d),m<j→m≤10→0≤i→(B34 1048576 l∧l.length≤60∧∀r∈l,1≤r.length)→B2q b (fun l:A7d=>B34 1048576 l∧l.length≤60∧∀r∈l,1≤r.length) (B5f n j (m:Int) b i g t.1 t.2.1 t.2.2 l):=by
  intro m
  induction m with
  |zero=>
   intro j i g l hj h10 hi hl
   obtain⟨j,rfl⟩:∃j',j=j'+1:=⟨j - 1,by omega⟩
   have e0:decide ((0:Int)<((0:Nat):Int))=false:=rfl
   simp only[B5f,e0,zA]
   exact .mk hi hl
  |succ m ih=>
   intro j i g l hj h10 hi hl
   obtain⟨j,rfl⟩:∃j',j=j'+1:=⟨j - 1,by omega⟩
   have e0:decide ((0:Int)<((m+1:Nat):Int))=true:=zD (by omega)
   have w1:IntKind.wrap .i64 (((m+1:Nat):Int) - (1:Int))=(m:Int):=by rw[wrap64]<;>omega
   simp only[B5f,e0,zB,w1]
   refine(hR b i g t hb hi ht).bind fun r i2 g2 p2 q2=>?_
   have hr:C39 1048576 r:=⟨by omega,q2.2⟩
   simp only[hP t l r hs hl.1 hr.1,zC,B2z]
   refine B38 (fun hz=>ih j i2 g2 _ (by omega) (by omega) p2 ⟨D9o hs hl.1 hr,?_⟩) fun _=>ih j i2 g2 _ (by omega) (by omega) p2 hl
   unfold B88
   split
   ·split
    ·split
     ·exact⟨Nat.zero_le _,fun r hr=>by cases hr⟩
     ·split
      ·exact⟨Nat.zero_le _,fun r hr=>by cases hr⟩
      ·have hlen:(B56 t l r).length=l.length+1:=by
        have:=congrArg List.length (List.takeWhile_append_dropWhile (p:=C08 t r) (l:=l))
        simp only[B56,List.length_append,zW,zX]at this⊢
        omega
       refine⟨by have:=hl.2.1;simp only[hlen];omega,fun x hx=>?_⟩
       simp only[B56,zY,zF1]at hx
       rcases hx with(hx|hx)|hx
       ·exact hl.2.2 x ((List.takeWhile_sublist _).subset hx)
       ·rw[hx];omega
       ·exact hl.2.2 x ((List.dropWhile_sublist _).subset hx)
    ·exact⟨Nat.zero_le _,fun r hr=>by cases hr⟩
   ·exact⟨Nat.zero_le _,fun r hr=>by cases hr⟩
 simp only[B9w]
 refine(hW b i h 7 hb hi (by omega)).bind fun x i1 g1 p1 q1=>?_
 have q1:=q1.1 (by omega)
 obtain⟨m,rfl⟩:=Int.eq_ofNat_of_zero_le q1.1
 exact loop m n i1 g1 [] (by omega) (by omega) p1 ⟨B4l,Nat.zero_le _,fun r hr=>by cases hr⟩
def D7d {α β:Type}(b:List Int)(P:α→β→Prop)(r:Option (α×(β×(((List Int)×(Int×Int))×Unit)))):Prop:=∃x y i h,r=some (x,(y,((b,(i,h)),())))∧0≤i∧P x y
theorem D7d.mk {α β:Type}{b:List Int}{P:α→β→Prop}{x:α}{y:β}{i g:Int}(hi:0≤i)(hp:P x y):D7d b P (some (x,(y,((b,(i,g)),())))):=⟨x,y,i,g,rfl,hi,hp⟩
theorem D7d.bind {α β γ:Type}{b:List Int}{P:α→β→Prop}{Q:Option γ→Prop}{r:Option (α×(β×(((List Int)×(Int×Int))×Unit)))}{f:α×(β×(((List Int)×(Int×Int))×Unit))→Option γ}
  (h:D7d b P r) (hf:∀x y i g,0≤i→P x y→Q (f (x,(y,((b,(i,g)),()))))):Q (r.bind f):=by
 obtain⟨x,y,i,g,rfl,hi,px⟩:=h
 exact hf x y i g hi px
def C09 (m:Nat)(l:A7d):Prop:=B34 1048576 l∧l.length≤m∧∀r∈l,1≤r.length
theorem C09.mono {m n:Nat}{l:A7d}(h:C09 m l)(hm:m≤n):C09 n l:=⟨h.1,Nat.le_trans h.2.1 hm,h.2.2⟩
theorem C09.set {m k:Nat}{l:A7d}{r:B3q}(h:C09 m l)(hr:C39 1048576 r)(h1:1≤r.length):C09 m (l.set k r):=
 ⟨⟨by rw[List.length_set];exact h.1.1,fun x hx=>by
   rcases List.mem_or_eq_of_mem_set hx with e|e
   ·exact h.1.2 x e
   ·rw[e];exact hr⟩,by rw[List.length_set];exact h.2.1,fun x hx=>by
   rcases List.mem_or_eq_of_mem_set hx with e|e
   ·exact h.2.2 x e
   ·rw[e];exact h1⟩
theorem C09.add {m:Nat}{l:A7d}{r:B3q}(h:C09 m l)(hm:m<1048576)(hr:C39 1048576 r)(h1:1≤r.length):C09 (m+1) (l++[r]):=by
 have hl:=h.2.1
 refine⟨⟨by simp;omega,fun x hx=>?_⟩,by simp;omega,fun x hx=>?_⟩
 ·rcases zY.mp hx with hx|hx
  ·exact h.1.2 x hx
  ·rw[zF1.mp hx];exact hr
 ·rcases zY.mp hx with hx|hx
  ·exact h.2.2 x hx
  ·rw[zF1.mp hx];exact h1
theorem E22 {r:B3q}{k:Nat}{v:B6p}(h:C39 1048576 r)(hv:B97 1048576 v):C39 1048576 (r.set k v):=
 ⟨by rw[List.length_set];exact h.1,fun x hx=>by
  rcases List.mem_or_eq_of_mem_set hx with e|e
  ·exact h.2 x e
  ·rw[e];exact hv⟩
def C00 (m:Nat)(d:B2w):Prop:=d.2.1.size≤1048576∧d.2.2.1.length≤m∧(∀c∈d.2.2.1,B9f 1048576 c)∧d.2.2.2.1.length≤m∧(∀k∈d.2.2.2.1,k.size≤1048576)∧d.2.2.2.2.1.size≤1048576∧d.2.2.2.2.2.size≤1048576
theorem C00.mono {m n:Nat}{d:B2w}(h:C00 m d)(hm:m≤n):C00 n d:=⟨h.1,Nat.le_trans h.2.1 hm,h.2.2.1,Nat.le_trans h.2.2.2.1 hm,h.2.2.2.2⟩
theorem C00.sm {m:Nat}{d:B2w}(h:C00 m d)(hm:m≤1048576):C1r 1048576 d:=⟨h.1,⟨Nat.le_trans h.2.1 hm,h.2.2.1⟩,⟨Nat.le_trans h.2.2.2.1 hm,h.2.2.2.2.1⟩,h.2.2.2.2.2.1,h.2.2.2.2.2.2⟩
theorem C5o:E0.size≤1048576:=Nat.zero_le _
theorem D42:EV fun n=>∀(b:List Int) (i h:Int),b.length≤1048576→0≤i→B2q b (C00 8) (C2c n b i h):=(B4o.and (C6o.and (C8y.and C2x))).up fun n ⟨hW,hS,hC,hT⟩ b i h hb hi=>by
 simp only[C2c]
 refine(hW b i h 5 hb hi (by omega)).bind fun x i1 g1 p1 q1=>?_
 refine(hW b i1 g1 4 hb p1 (by omega)).bind fun y i2 g2 p2 q2=>?_
 have hw9:(List.getD [(⟨#[111]⟩:ByteArray),⟨#[116]⟩,⟨#[117]⟩,⟨#[118]⟩] y.toNat E0).size≤9:=C0h (by decide)
 have hw:(List.getD [(⟨#[111]⟩:ByteArray),⟨#[116]⟩,⟨#[117]⟩,⟨#[118]⟩] y.toNat E0).size≤1048576:=Nat.le_trans hw9 (by decide)
 have hcol:∀c:B4n,B9f 1048576 c→∀x∈[c],B9f 1048576 x:=fun c hc x hx=>by rw[zF1.mp hx];exact hc
 have hnil:∀k∈([]:B2f),k.size≤1048576:=fun k hk=>by cases hk
 have hnilc:∀k∈([]:B2g),B9f 1048576 k:=fun k hk=>by cases hk
 refine B9a (C4f (m:=4) (by decide) (by decide) q2) (B38 (fun _=>?_) fun _=>B38 (fun _=>?_) fun _=>B38 (fun _=>?_) fun _=>B38 (fun _=>?_) fun _=> .mk p2 ⟨hw,Nat.zero_le _,hnilc,Nat.zero_le _,hnil,C5o,C5o⟩)
 ·refine(hT b i2 g2 _ hb p2 hw9).bind fun t i3 g3 p3 q3=>?_
  exact .mk p3 ⟨hw,Nat.le_trans q3.2.2.1 (by decide),q3.2.2.2.2.1,Nat.le_trans q3.2.2.2.1 (by decide),q3.2.2.2.2.2,C5o,C5o⟩
 ·refine(hS b i2 g2 hb p2).bind fun s i3 g3 p3 q3=>?_
  refine(hC b i3 g3 s hb p3 (Nat.le_trans q3 (by decide))).bind fun c i4 g4 p4 q4=>?_
  have k1:∀c:B4n,B9f 1048576 c→∀a:Int,C00 8 (a,(List.getD [(⟨#[111]⟩:ByteArray),⟨#[116]⟩,⟨#[117]⟩,⟨#[118]⟩] y.toNat E0,([c],([],(E0,E0))))):=fun c hc a=>⟨hw,(by decide:1≤8),hcol c hc,Nat.zero_le _,hnil,C5o,C5o⟩
  exact B38 (fun _=>B38 (fun _=> .mk p4 (k1 (c.1,(c.2.1,(false,c.2.2.2))) ⟨q4.1,q4.2⟩ _)) fun _=> .mk p4 (k1 c q4 _)) fun _=> .mk p4 (k1 c q4 _)
 ·refine(hS b i2 g2 hb p2).bind fun s i3 g3 p3 q3=>?_
  exact .mk p3 ⟨hw,Nat.zero_le _,hnilc,Nat.zero_le _,hnil,Nat.le_trans q3 (by decide),C5o⟩
 ·refine(hS b i2 g2 hb p2).bind fun s i3 g3 p3 q3=>?_
  refine(hS b i3 g3 hb p3).bind fun s2 i4 g4 p4 q4=>?_
  exact .mk p4 ⟨hw,Nat.zero_le _,hnilc,Nat.zero_le _,hnil,Nat.le_trans q3 (by decide),Nat.le_trans q4 (by decide)⟩
theorem D5w:EV fun n=>∀(b:List Int) (i h:Int),b.length≤1048576→0≤i→B2q b (C00 9) (C1e n b i h):=(B4o.and (D42.and C8y)).up fun n ⟨hW,hD,hC⟩ b i h hb hi=>by
 have k6:∀(i g z:Int) (e1 e2 e3:ByteArray) (cs:B2g) (ks:B2f) (d:B2w),0≤i→C00 9 d→B2q b (C00 9) (B7f n 1 b i g z e1 e2 e3 cs ks d.1 d.2.1 d.2.2.2.2.1 d.2.2.2.2.2 d.2.2.1 d.2.2.2.1):=by
  intro i g z e1 e2 e3 cs ks d hi hd
  simp only[B7f]
  exact .mk hi hd
 have k5:∀(k i g z:Int) (e1 e2 e3:ByteArray) (cs:B2g) (ks:B2f) (d:B2w),0≤i→(d.2.2.1.length≤9∧d.2.2.2.1.length≤8∧C00 9 d)→B2q b (C00 9) (B7e n 1 k b i g z e1 e2 e3 cs ks d.1 d.2.1 d.2.2.2.2.1 d.2.2.2.2.2 d.2.2.1 d.2.2.2.1):=by
  intro k i g z e1 e2 e3 cs ks d hi ⟨h1,h2,hd⟩
  simp only[B7e]
  refine B38 (fun _=>B9a (room_le (n:=100) (by simp;omega) (by decide) (by decide)) (k6 _ _ _ _ _ _ _ _ (d.1,(d.2.1,(d.2.2.1,(d.2.2.2.1++[⟨#[105,100]⟩],(d.2.2.2.2.1,d.2.2.2.2.2))))) hi ⟨hd.1,hd.2.1,hd.2.2.1,by simp;omega,fun x hx=>?_,hd.2.2.2.2.2⟩)) fun _=>k6 _ _ _ _ _ _ _ _ d hi hd
  rcases zY.mp hx with hx|hx
  ·exact hd.2.2.2.2.1 x hx
  ·rw[zF1.mp hx];decide
 have k4:∀(k i g z:Int) (e1 e2 e3:ByteArray) (cs:B2g) (ks:B2f) (d:B2w),0≤i→C00 8 d→B2q b (C00 9) (B7d n 1 k b i g z e1 e2 e3 cs ks d.1 d.2.1 d.2.2.2.2.1 d.2.2.2.2.2 d.2.2.1 d.2.2.2.1):=by
  intro k i g z e1 e2 e3 cs ks d hi hd
  have hl:=hd.2.1
  simp only[B7d]
  refine B38 (fun _=>?_) fun _=>k5 _ _ _ _ _ _ _ _ _ d hi ⟨by omega,hd.2.2.2.1,hd.mono (by decide)⟩
  refine(hC b i g _ hb hi (by decide)).bind fun c i2 g2 p2 q2=>?_
  refine B9a (room_le (n:=100) (by simp;omega) (by decide) (by decide)) (k5 _ _ _ _ _ _ _ _ _ (d.1,(d.2.1,(d.2.2.1++[c],(d.2.2.2.1,(d.2.2.2.2.1,d.2.2.2.2.2))))) p2 ⟨by simp;omega,hd.2.2.2.1,hd.1,by simp;omega,fun x hx=>?_,Nat.le_trans hd.2.2.2.1 (by decide),hd.2.2.2.2⟩)
  rcases zY.mp hx with hx|hx
  ·exact hd.2.2.1 x hx
  ·rw[zF1.mp hx];exact q2
 have k3:∀(k i g z:Int) (e1 e2 e3:ByteArray) (cs:B2g) (ks:B2f) (d:B2w),0≤i→C00 8 d→B2q b (C00 9) (B7c n 1 k b i g z e1 e2 e3 cs ks d.1 d.2.1 d.2.2.2.2.1 d.2.2.2.2.2 d.2.2.1 d.2.2.2.1):=by
  intro k i g z e1 e2 e3 cs ks d hi hd
  simp only[B7c]
  exact B38 (fun _=>k4 _ _ _ _ _ _ _ _ _ (d.1,(d.2.1,(d.2.2.1,(d.2.2.2.1,(d.2.2.2.2.1,⟨#[120]⟩))))) hi ⟨hd.1,hd.2.1,hd.2.2.1,hd.2.2.2.1,hd.2.2.2.2.1,hd.2.2.2.2.2.1,(by decide:(⟨#[120]⟩:ByteArray).size≤1048576)⟩) fun _=>k4 _ _ _ _ _ _ _ _ _ d hi hd
 have k2:∀(k i g z:Int) (e1 e2 e3:ByteArray) (cs:B2g) (ks:B2f) (d:B2w),0≤i→C00 8 d→B2q b (C00 9) (B7b n 1 k b i g z e1 e2 e3 cs ks d.1 d.2.1 d.2.2.2.2.1 d.2.2.2.2.2 d.2.2.1 d.2.2.2.1):=by
  intro k i g z e1 e2 e3 cs ks d hi hd
  simp only[B7b]
  exact B38 (fun _=>k3 _ _ _ _ _ _ _ _ _ (d.1,(d.2.1,(d.2.2.1,(d.2.2.2.1,(⟨#[88]⟩,d.2.2.2.2.2))))) hi ⟨hd.1,hd.2.1,hd.2.2.1,hd.2.2.2.1,hd.2.2.2.2.1,(by decide:(⟨#[88]⟩:ByteArray).size≤1048576),hd.2.2.2.2.2.2⟩) fun _=>k3 _ _ _ _ _ _ _ _ _ d hi hd
 have k1:∀(k i g z:Int) (e1 e2 e3:ByteArray) (cs:B2g) (ks:B2f) (d:B2w),0≤i→C00 8 d→B2q b (C00 9) (B7a n 1 k b i g z e1 e2 e3 cs ks d.1 d.2.1 d.2.2.2.2.1 d.2.2.2.2.2 d.2.2.1 d.2.2.2.1):=by
  intro k i g z e1 e2 e3 cs ks d hi hd
  simp only[B7a]
  exact B38 (fun _=>k2 _ _ _ _ _ _ _ _ _ (d.1,(E0,d.2.2)) hi ⟨C5o,hd.2⟩) fun _=>k2 _ _ _ _ _ _ _ _ _ d hi hd
 simp only[C1e]
 refine(hD b i h hb hi).bind fun d i1 g1 p1 q1=>?_
 refine(hW b i1 g1 14 hb p1 (by omega)).bind fun x i2 g2 p2 q2=>?_
 refine B38 (fun _=>?_) fun _=>k1 _ _ _ _ _ _ _ _ _ d p2 q1
 refine(hW b i2 g2 8 hb p2 (by omega)).bind fun y i3 g3 p3 q3=>?_
 exact k1 _ _ _ _ _ _ _ _ _ (_,d.2) p3 q1
theorem D9q {n:Nat}{b:List Int}{i h:Int}{t:C1}(hR:∀(b:List Int) (i h:Int) (t:C1),b.length≤1048576→0≤i→t.2.1.length≤20→B2j 1048576 t→1≤t.2.1.length→B2q b (fun l:A7d=>B34 1048576 l∧l.length≤60∧∀r∈l,1≤r.length) (B9w n b i h t.1 t.2.1 t.2.2))(hb:b.length≤1048576)(hi:0≤i)(ht:B4z 8 t):
  B2q b (C09 60) (B9w n b i h t.1 t.2.1 t.2.2):=hR b i h t hb hi (Nat.le_trans ht.2.2.1 (by decide)) (ht.sm (by decide)) ht.2.1
def C2k (m k:Nat)(d:B7j):Prop:=C4p m d.1∧d.2.length≤k∧∀l∈d.2,C09 60 l
theorem C2k.sm {m k:Nat}{d:B7j}(h:C2k m k d)(hm:m≤1048576)(hk:k≤1048576):C1o 1048576 d:=
 ⟨⟨Nat.le_trans h.1.1 hm,fun t ht=>(h.1.2 t ht).sm (by decide)⟩,⟨Nat.le_trans h.2.1 hk,fun l hl=>(h.2.2 l hl).1⟩⟩
theorem D7s:EV fun n=>∀(b:List Int) (i h:Int),b.length≤1048576→0≤i→B2q b (C2k 3 3) (C2s n b i h):=(D41.and (D8x.and (EV.gt 10))).up fun n ⟨hC,hR,hn⟩ b i h hb hi=>by
 simp only[C2s]
 refine(hC b i h hb hi).bind fun c i1 g1 p1 q1=>?_
 obtain⟨hl3,hcs⟩:=q1
 have loop:∀(t j k:Nat) (i g:Int) (e1:B25) (e2 ds:B6l),k+t=c.length→t<j→0≤i→ds.length=k→(∀l∈ds,C09 60 l)→B2q b (C2k 3 3) (B6z n j c (c.length:Int) (k:Int) b i g e1 e2 c ds):=by
  intro t
  induction t with
  |zero=>
   intro j k i g e1 e2 ds hk hj hi hd hm
   obtain⟨j,rfl⟩:∃j',j=j'+1:=⟨j - 1,by omega⟩
   have e0:decide ((k:Int)<(c.length:Int))=false:=zK (by omega)
   simp only[B6z,e0,zA]
   exact .mk hi ⟨⟨hl3,hcs⟩,by show ds.length≤3;omega,hm⟩
  |succ t ih=>
   intro j k i g e1 e2 ds hk hj hi hd hm
   obtain⟨j,rfl⟩:∃j',j=j'+1:=⟨j - 1,by omega⟩
   have hk1:k<c.length:=by omega
   have e0:decide ((k:Int)<(c.length:Int))=true:=zD (by omega)
   simp only[B6z,e0,zB,D1 hk1,zE,getD_at hk1,D3 hk1 (by omega)]
   refine(D9q hR hb hi (hcs _ (zL hk1))).bind fun l i3 g3 p3 q3=>?_
   refine B9a (room_le (n:=10) (by simp;omega) (by decide) (by decide)) (ih j (k+1) i3 g3 e1 e2 _ (by omega) (by omega) p3 (by simp;omega) fun x hx=>?_)
   rcases zY.mp hx with hx|hx
   ·exact hm x hx
   ·rw[zF1.mp hx];exact q3
 exact loop c.length n 0 i1 g1 [] [] [] (by omega) (by omega) p1 rfl (fun l hl=>by cases hl)
theorem E0x {k:Nat}{d:B6l}(hd:d.length≤k∧∀l∈d,C09 60 l):(d++[([]:A7d)]).length≤k+1∧∀l∈d++[([]:A7d)],C09 60 l:=by
 refine⟨by simp;exact hd.1,fun l hl=>?_⟩
 rcases zY.mp hl with hl|hl
 ·exact hd.2 l hl
 ·rw[zF1.mp hl];exact⟨B4l,Nat.zero_le _,fun r hr=>by cases hr⟩
theorem D2r:EV fun n=>∀(b:List Int) (i h:Int),b.length≤1048576→0≤i→B2q b (C2k 9 4) (C3x n b i h):=(B4o.and (D7s.and (D5v.and C8x))).up fun n ⟨hW,hD,hC,hV⟩ b i h hb hi=>by
 simp only[C3x]
 refine(hD b i h hb hi).bind fun d i1 g1 p1 q1=>?_
 refine(hW b i1 g1 14 hb p1 (by omega)).bind fun x i2 g2 p2 q2=>?_
 have last:∀(i g:Int) (c:B25) (ds:B6l),0≤i→C4p 9 c→(ds.length≤4∧∀l∈ds,C09 60 l)→B2q b (C2k 9 4) (bif(x==(2:Int))then(bif(decide ((0:Int)<(ds.length:Int)))then(bif(inR (0:Int) ds.length)then(bif(decide ((0:Int)<((ds.getD (0:Int).toNat ([]:A7d)).length:Int)))then(bif(inR (0:Int) ds.length)then(bif(inR (0:Int) (ds.getD (0:Int).toNat ([]:A7d)).length)then((B4u n b i g).bind fun r16=>(bif(inR (0:Int) ((ds.getD (0:Int).toNat ([]:A7d)).getD (0:Int).toNat ([]:B2e)).length)then(some ((c,(ds.set (0:Int).toNat ((ds.getD (0:Int).toNat ([]:A7d)).set (0:Int).toNat (((ds.getD (0:Int).toNat ([]:A7d)).getD (0:Int).toNat ([]:B2e)).set (0:Int).toNat (r16.1.1,(r16.1.2.1,r16.1.2.2)))))),((r16.2.1.1,(r16.2.1.2.1,r16.2.1.2.2)),())))else none))else none)else none)else(some ((c,ds),((b,(i,g)),()))))else none)else(some ((c,ds),((b,(i,g)),()))))else(some ((c,ds),((b,(i,g)),())))):=by
  intro i g c ds hi hc ⟨hd4,hds⟩
  have same:B2q b (C2k 9 4) (some ((c,ds),((b,(i,g)),()))):= .mk hi ⟨hc,hd4,hds⟩
  refine B38 (fun _=>B38 (fun hp=>?_) fun _=>same) fun _=>same
  have hp:=of_decide_eq_true hp
  have h0:0<ds.length:=by omega
  simp only[show(0:Int).toNat=0 from rfl,getD_at h0]
  have hr:=hds _ (zL h0)
  refine B9a (in0 h0) (B38 (fun hq=>?_) fun _=>same)
  have hq:=of_decide_eq_true hq
  have h1:0<ds[0].length:=by omega
  simp only[getD_at h1]
  refine B9a (in0 h0) (B9a (in0 h1) ?_)
  refine(hV b i g hb hi).bind fun v i3 g3 p3 q3=>?_
  have t0:=hr.2.2 _ (zL h1)
  refine B9a (in0 t0) (.mk p3 ⟨hc,by show(ds.set 0 _).length≤4;rw[List.length_set];exact hd4,fun l hl=>?_⟩)
  rcases List.mem_or_eq_of_mem_set hl with e|e
  ·exact hds l e
  ·rw[e];exact hr.set (E22 (hr.1.2 _ (zL h1)) (Nat.le_trans q3 (by decide))) (by rw[List.length_set];exact t0)
 have d3:d.2.length≤3∧∀l∈d.2,C09 60 l:=q1.2
 have d4:d.2.length≤4∧∀l∈d.2,C09 60 l:=⟨by omega,d3.2⟩
 have c9:C4p 9 d.1:=⟨Nat.le_trans q1.1.1 (by decide),q1.1.2⟩
 have mid:∀(i g:Int) (c:B25) (R1 R2:Option (B7j×(((List Int)×(Int×Int))×Unit))),B2q b (C2k 9 4) R1→B2q b (C2k 9 4) R2→B2q b (C2k 9 4) (bif(x==(1:Int))then(bif(room (d.2.length+[([]:A7d)].length) 24)then R1 else none)else R2):=by
  intro i g c R1 R2 h1 h2
  exact B38 (fun _=>B9a (room_le (n:=10) (by simp;omega) (by decide) (by decide)) h1) fun _=>h2
 refine B38 (fun _=>?_) fun _=>?_
 ·refine(hC b i2 g2 hb p2).bind fun c i3 g3 p3 q3=>?_
  exact mid i3 g3 c _ _ (last i3 g3 c _ p3 q3 (E0x d3)) (last i3 g3 c _ p3 q3 d4)
 ·exact mid i2 g2 d.1 _ _ (last i2 g2 d.1 _ p2 c9 (E0x d3)) (last i2 g2 d.1 _ p2 c9 d4)
theorem D9p:EV fun n=>∀(b:List Int) (i h:Int) (t:C1) (l:A7d),b.length≤1048576→0≤i→B4z 8 t→C09 60 l→B2q b (fun k:B2e=>k.length≤20∧∀v∈k,B97 1048576 v) (B80 n b i h t.1 t.2.1 t.2.2 l):=(B4o.and (D44.and (D5z.and (EV.gt 30)))).up fun n ⟨hW,hV,hK,hn⟩ b i h t l hb hi ht hl=>by
 have hks:=ht.2.2.2.1
 have loop:∀(m j k:Nat) (i g:Int) (r:B2e),k+m=t.2.2.length→m<j→0≤i→r.length=k→(∀v∈r,B97 1048576 v)→B2q b (fun k:B2e=>k.length≤20∧∀v∈k,B97 1048576 v) (B3l n j (t.2.2.length:Int) (k:Int) b i g r):=by
  intro m
  induction m with
  |zero=>
   intro j k i g r hk hj hi hr hv
   obtain⟨j,rfl⟩:∃j',j=j'+1:=⟨j - 1,by omega⟩
   have e0:decide ((k:Int)<(t.2.2.length:Int))=false:=zK (by omega)
   simp only[B3l,e0,zA]
   exact .mk hi ⟨by omega,hv⟩
  |succ m ih=>
   intro j k i g r hk hj hi hr hv
   obtain⟨j,rfl⟩:∃j',j=j'+1:=⟨j - 1,by omega⟩
   have e0:decide ((k:Int)<(t.2.2.length:Int))=true:=zD (by omega)
   simp only[B3l,e0,zB,D3 (show k<t.2.2.length by omega) (by omega)]
   refine(hV b i g hb hi).bind fun v i2 g2 p2 q2=>?_
   refine B9a (room_le (n:=100) (by simp;omega) (by decide) (by decide)) (ih j (k+1) i2 g2 _ (by omega) (by omega) p2 (by simp;omega) fun x hx=>?_)
   rcases zY.mp hx with hx|hx
   ·exact hv x hx
   ·rw[zF1.mp hx];exact Nat.le_trans q2 (by decide)
 have start:∀(i g:Int),0≤i→B2q b (fun k:B2e=>k.length≤20∧∀v∈k,B97 1048576 v) (B3l n n (t.2.2.length:Int) (0:Int) b i g []):=
  fun i g hi=>loop t.2.2.length n 0 i g [] (by omega) (by omega) hi rfl (fun v hv=>by cases hv)
 simp only[B80]
 refine B38 (fun hp=>?_) fun _=>start _ _ hi
 have hp:=of_decide_eq_true hp
 refine(hW b i h 4 hb hi (by omega)).bind fun x i1 g1 p1 q1=>?_
 refine B38 (fun _=>?_) fun _=>start _ _ p1
 have hl2:=hl.2.1
 refine(hW b i1 g1 (l.length:Int) hb p1 (by omega)).bind fun y i2 g2 p2 q2=>?_
 have q3:=q2.1 (by omega)
 obtain⟨k,rfl⟩:=Int.eq_ofNat_of_zero_le q3.1
 have hk:k<l.length:=by omega
 refine B9a (D1 hk) ?_
 simp only[zE,getD_at hk,hK t l[k] (ht.sm (by decide)),zC]
 refine B38 (fun _=> .mk p2 ?_) fun _=>start _ _ p2
 have hr:=hl.1.2 _ (zL hk)
 unfold E2d
 split
 ·refine⟨by rw[B44];omega,fun v hv=>?_⟩
  obtain⟨key,_,rfl⟩:=List.mem_map.mp hv
  by_cases hc:(D4 t.2.1 key).toNat<l[k].length
  ·rw[getD_at hc];exact hr.2 _ (zL hc)
  ·rw[List.getD,List.getElem?_eq_none (by omega)];exact Nat.zero_le _
 ·exact⟨Nat.zero_le _,fun v hv=>by cases hv⟩
def C3y (m:Nat)(l:B2e):Prop:=l.length≤m∧∀v∈l,B97 1048576 v
theorem C3y.mono {m n:Nat}{l:B2e}(h:C3y m l)(hm:m≤n):C3y n l:=⟨Nat.le_trans h.1 hm,h.2⟩
theorem C3y.add {m:Nat}{l:B2e}{v:B6p}(h:C3y m l)(hv:B97 1048576 v):C3y (m+1) (l++[v]):=by
 refine⟨by have:=h.1;simp;exact this,fun x hx=>?_⟩
 rcases zY.mp hx with hx|hx
 ·exact h.2 x hx
 ·rw[zF1.mp hx];exact hv
theorem C3y.nil {m:Nat}:C3y m []:=⟨Nat.zero_le _,fun v hv=>absurd hv (by simp)⟩
def B6k (m:Nat)(s:B32):Prop:=s.2.1.size≤1048576∧C3y m s.2.2.1∧C3y m s.2.2.2.1∧C00 9 s.2.2.2.2
theorem B6k.mono {m n:Nat}{s:B32}(h:B6k m s)(hm:m≤n):B6k n s:=⟨h.1,h.2.1.mono hm,h.2.2.1.mono hm,h.2.2.2⟩
theorem B6k.sm {m:Nat}{s:B32}(h:B6k m s)(hm:m≤1048576):B99 1048576 s:=⟨h.1,⟨Nat.le_trans h.2.1.1 hm,h.2.1.2⟩,⟨Nat.le_trans h.2.2.1.1 hm,h.2.2.1.2⟩,h.2.2.2.sm (by decide)⟩
theorem D4b:C00 9 C8p:=⟨C5o,Nat.zero_le _,(fun c hc=>by cases hc),Nat.zero_le _,(fun c hc=>by cases hc),C5o,C5o⟩
theorem D8y:EV fun n=>∀(b:List Int) (i h:Int) (d:B7j),b.length≤1048576→0≤i→C2k 9 4 d→B2q b (B6k 20) (C2t n b i h d.1 d.2):=(B4o.and (C2x.and (D43.and (D9p.and D42)))).up fun n ⟨hW,hT,hR,hK,hD⟩ b i h d hb hi hd=>by
 have k6:∀(i g:Int) (z1:Int) (w1:ByteArray) (z2:Int) (w2 w3 w4:ByteArray) (v1 v2:B2e) (c:B2g) (k:B2f) (s:B32),0≤i→B6k 20 s→
   B2q b (B6k 20) (B5k n 1 b i g z1 w1 z2 w2 w3 w4 v1 v2 c k s.1 s.2.1 s.2.2.2.2.1 s.2.2.2.2.2.1 s.2.2.2.2.2.2.2.2.1 s.2.2.2.2.2.2.2.2.2 s.2.2.1 s.2.2.2.1 s.2.2.2.2.2.2.1 s.2.2.2.2.2.2.2.1):=by
  intro i g z1 w1 z2 w2 w3 w4 v1 v2 c k s hi hs
  simp only[B5k]
  exact .mk hi hs
 have k5:∀(i g:Int) (z1:Int) (w1:ByteArray) (z2:Int) (w2 w3 w4:ByteArray) (v1 v2:B2e) (c:B2g) (k:B2f) (s:B32),0≤i→B6k 20 s→
   B2q b (B6k 20) (B5j n 1 b i g z1 w1 z2 w2 w3 w4 v1 v2 c k s.1 s.2.1 s.2.2.2.2.1 s.2.2.2.2.2.1 s.2.2.2.2.2.2.2.2.1 s.2.2.2.2.2.2.2.2.2 s.2.2.1 s.2.2.2.1 s.2.2.2.2.2.2.1 s.2.2.2.2.2.2.2.1):=by
  intro i g z1 w1 z2 w2 w3 w4 v1 v2 c k s hi hs
  simp only[B5j]
  refine B38 (fun _=>?_) fun _=>k6 _ _ _ _ _ _ _ _ _ _ _ _ s hi hs
  refine(hD b i g hb hi).bind fun x i2 g2 p2 q2=>?_
  refine(hW b i2 g2 2 hb p2 (by omega)).bind fun y i3 g3 p3 q3=>?_
  have q9:=q2.mono (n:=9) (by decide)
  have A:=k6 i3 g3 z1 w1 z2 w2 w3 w4 v1 v2 c k (s.1,(x.2.1,(s.2.2.1,(s.2.2.2.1,x)))) p3 ⟨q9.1,hs.2.1,hs.2.2.1,q9⟩
  have B:=k6 i3 g3 z1 w1 z2 w2 w3 w4 v1 v2 c k (s.1,(s.2.1,(s.2.2.1,(s.2.2.2.1,(x.1,(s.2.1,x.2.2)))))) p3 ⟨hs.1,hs.2.1,hs.2.2.1,hs.1,q9.2⟩
  exact B38 (fun _=>B38 (fun _=>B) fun _=>A) fun _=>A
 have k4:∀(i g:Int) (z1:Int) (w1:ByteArray) (z2:Int) (w2 w3 w4:ByteArray) (v1 v2:B2e) (c:B2g) (k:B2f) (s:B32),0≤i→B6k 20 s→(s.1=2→1≤s.2.2.2.1.length)→
   B2q b (B6k 20) (B5i n 1 b i g z1 w1 z2 w2 w3 w4 v1 v2 c k s.1 s.2.1 s.2.2.2.2.1 s.2.2.2.2.2.1 s.2.2.2.2.2.2.2.2.1 s.2.2.2.2.2.2.2.2.2 s.2.2.1 s.2.2.2.1 s.2.2.2.2.2.2.1 s.2.2.2.2.2.2.2.1):=by
  intro i g z1 w1 z2 w2 w3 w4 v1 v2 c k s hi hs h2
  simp only[B5i]
  refine B38 (fun e2=>B38 (fun hp=>?_) fun _=>k5 _ _ _ _ _ _ _ _ _ _ _ _ s hi hs) fun _=>k5 _ _ _ _ _ _ _ _ _ _ _ _ s hi hs
  have h2:=h2 (by simpa using e2)
  have hp:=of_decide_eq_true hp
  have hp:0<s.2.2.1.length:=by omega
  refine(hW b i g 2 hb hi (by omega)).bind fun y i3 g3 p3 q3=>?_
  refine B38 (fun _=>?_) fun _=>k5 _ _ _ _ _ _ _ _ _ _ _ _ s p3 hs
  simp only[show(0:Int).toNat=0 from rfl,getD_at hp]
  refine B9a (in0 hp) (B9a (in0 h2) (k5 _ _ _ _ _ _ _ _ _ _ _ _ (s.1,(s.2.1,(s.2.2.1,(s.2.2.2.1.set 0 s.2.2.1[0],s.2.2.2.2)))) p3 ⟨hs.1,hs.2.1,⟨by rw[List.length_set];exact hs.2.2.1.1,fun v hv=>?_⟩,hs.2.2.2⟩))
  rcases List.mem_or_eq_of_mem_set hv with e|e
  ·exact hs.2.2.1.2 v e
  ·rw[e];exact hs.2.1.2 _ (zL hp)
 have k3:∀(l:A7d) (i g:Int) (z1:Int) (w1:ByteArray) (z2:Int) (w2 w3 w4:ByteArray) (v1 v2:B2e) (c:B2g) (k:B2f) (s:B32) (t:C1),0≤i→B6k 20 s→(s.1=2→1≤s.2.2.2.1.length)→B4z 8 t→C09 60 l→
   B2q b (B6k 20) (B5h n 1 l b i g z1 w1 z2 w2 w3 w4 v1 v2 c k s.1 s.2.1 s.2.2.2.2.1 s.2.2.2.2.2.1 s.2.2.2.2.2.2.2.2.1 s.2.2.2.2.2.2.2.2.2 s.2.2.1 s.2.2.2.1 s.2.2.2.2.2.2.1 s.2.2.2.2.2.2.2.1 t.1 t.2.1 t.2.2):=by
  intro l i g z1 w1 z2 w2 w3 w4 v1 v2 c k s t hi hs h2 ht hl
  simp only[B5h]
  have A:B2q b (B6k 20) ((B80 n b i g t.1 t.2.1 t.2.2 l).bind fun r102=>(B5i n 1 r102.2.1.1 r102.2.1.2.1 r102.2.1.2.2 z1 w1 z2 w2 w3 w4 v1 v2 c k s.1 s.2.1 s.2.2.2.2.1 s.2.2.2.2.2.1 s.2.2.2.2.2.2.2.2.1 s.2.2.2.2.2.2.2.2.2 r102.1 s.2.2.2.1 s.2.2.2.2.2.2.1 s.2.2.2.2.2.2.2.1)):=by
   refine(hK b i g t l hb hi ht hl).bind fun x i2 g2 p2 q2=>?_
   exact k4 _ _ _ _ _ _ _ _ _ _ _ _ (s.1,(s.2.1,(x,s.2.2.2))) p2 ⟨hs.1,q2,hs.2.2.1,hs.2.2.2⟩ h2
  exact B38 (fun _=>A) fun _=>B38 (fun _=>A) fun _=>k4 _ _ _ _ _ _ _ _ _ _ _ _ s hi hs h2
 have k2:∀(l:A7d) (i g:Int) (z1:Int) (w1:ByteArray) (z2:Int) (w2 w3 w4:ByteArray) (v1 v2:B2e) (c:B2g) (k:B2f) (s:B32) (t:C1),0≤i→B6k 20 s→B4z 8 t→C09 60 l→
   B2q b (B6k 20) (B5g n 1 l b i g z1 w1 z2 w2 w3 w4 v1 v2 c k s.1 s.2.1 s.2.2.2.2.1 s.2.2.2.2.2.1 s.2.2.2.2.2.2.2.2.1 s.2.2.2.2.2.2.2.2.2 s.2.2.1 s.2.2.2.1 s.2.2.2.2.2.2.1 s.2.2.2.2.2.2.2.1 t.1 t.2.1 t.2.2):=by
  intro l i g z1 w1 z2 w2 w3 w4 v1 v2 c k s t hi hs ht hl
  simp only[B5g]
  have hc:=ht.2.2.1
  have A:B2q b (B6k 20) ((B8f n b i g t.1 t.2.1 t.2.2).bind fun r74=>(B5h n 1 l r74.2.1.1 r74.2.1.2.1 r74.2.1.2.2 z1 w1 z2 w2 w3 w4 v1 v2 c k s.1 s.2.1 s.2.2.2.2.1 s.2.2.2.2.2.1 s.2.2.2.2.2.2.2.2.1 s.2.2.2.2.2.2.2.2.2 s.2.2.1 r74.1 s.2.2.2.2.2.2.1 s.2.2.2.2.2.2.2.1 t.1 t.2.1 t.2.2)):=by
   refine(hR b i g t hb hi (by omega)).bind fun x i2 g2 p2 q2=>?_
   exact k3 _ _ _ _ _ _ _ _ _ _ _ _ _ (s.1,(s.2.1,(s.2.2.1,(x,s.2.2.2.2)))) t p2 ⟨hs.1,hs.2.1,⟨by rw[q2.1];omega,q2.2⟩,hs.2.2.2⟩ (fun _=>by show 1≤x.length;rw[q2.1];exact ht.2.1) ht hl
  refine B38 (fun _=>A) fun _=>B38 (fun _=>A) fun hne=>k3 _ _ _ _ _ _ _ _ _ _ _ _ _ s t hi hs (fun e=>?_) ht hl
  rw[e]at hne;cases hne
 have k1:∀(m i g:Int) (z1:Int) (w1:ByteArray) (z2:Int) (w2 w3 w4:ByteArray) (v1 v2:B2e) (c:B2g) (k:B2f) (s:B32),m=(d.1.length:Int)→0≤i→B6k 20 s→
   B2q b (B6k 20) (B8p n 1 m b i g d.1 d.2 z1 w1 z2 w2 w3 w4 v1 v2 c k s.1 s.2.1 s.2.2.2.2.1 s.2.2.2.2.2.1 s.2.2.2.2.2.2.2.2.1 s.2.2.2.2.2.2.2.2.2 s.2.2.1 s.2.2.2.1 s.2.2.2.2.2.2.1 s.2.2.2.2.2.2.2.1):=by
  intro m i g z1 w1 z2 w2 w3 w4 v1 v2 c k s hm hi hs
  subst hm
  simp only[B8p]
  refine(hT b i g _ hb hi (by decide)).bind fun t i2 g2 p2 q2=>?_
  have q8:=q2.mono (n:=8) (by decide)
  have hnil:C09 60 []:=⟨B4l,Nat.zero_le _,fun r hr=>by cases hr⟩
  refine B38 (fun hp=>B38 (fun he=>?_) fun _=>k2 _ _ _ _ _ _ _ _ _ _ _ _ _ s t p2 hs q8 hnil) fun _=>k2 _ _ _ _ _ _ _ _ _ _ _ _ _ s t p2 hs q8 hnil
  have hp:=of_decide_eq_true hp
  have he:(d.2.length:Int)=(d.1.length:Int):=by simpa using he
  have h9:=hd.1.1
  refine(hW b i2 g2 8 hb p2 (by omega)).bind fun x i3 g3 p3 q3=>?_
  refine B38 (fun _=>?_) fun _=>k2 _ _ _ _ _ _ _ _ _ _ _ _ _ s t p3 hs q8 hnil
  refine(hW b i3 g3 (d.1.length:Int) hb p3 (by omega)).bind fun y i4 g4 p4 q4=>?_
  have q5:=q4.1 (by omega)
  obtain⟨a,rfl⟩:=Int.eq_ofNat_of_zero_le q5.1
  have h1:a<d.1.length:=by omega
  have h2:a<d.2.length:=by omega
  simp only[zE,getD_at h1,getD_at h2]
  have ht:=hd.1.2 _ (zL h1)
  exact B9a (D1 h1) (B9a (D1 h2) (k2 _ _ _ _ _ _ _ _ _ _ _ _ _ (s.1,(d.1[a].1,s.2.2)) d.1[a] p4 ⟨Nat.le_trans ht.1 (by decide),hs.2⟩ ht (hd.2.2 _ (zL h2))))
 simp only[C2t]
 refine(hW b i h 5 hb hi (by omega)).bind fun x i1 g1 p1 q1=>?_
 refine(hW b i1 g1 4 hb p1 (by omega)).bind fun y i2 g2 p2 q2=>?_
 refine B9a (C4f (m:=4) (by decide) (by decide) q2) ?_
 refine(hW b i2 g2 3 hb p2 (by omega)).bind fun z i3 g3 p3 q3=>?_
 have hw:(List.getD [(⟨#[111]⟩:ByteArray),⟨#[116]⟩,⟨#[117]⟩,⟨#[118]⟩] y.toNat E0).size≤1048576:=C0h (by decide)
 refine B38 (fun _=>?_) fun _=>?_
 ·exact k1 _ _ _ _ _ _ _ _ _ _ _ _ _ (1,(_,([],([],C8p)))) rfl p3 ⟨hw,C3y.nil,C3y.nil,D4b⟩
 ·exact k1 _ _ _ _ _ _ _ _ _ _ _ _ _ (_,(_,([],([],C8p)))) rfl p3 ⟨hw,C3y.nil,C3y.nil,D4b⟩
theorem D40:EV fun n=>∀(b:List Int) (i h:Int) (d:B7j),b.length≤1048576→0≤i→C2k 9 4 d→B2q b (B6k 22) (C0g n b i h d.1 d.2):=(B4o.and (D8y.and (C8x.and D5w))).up fun n ⟨hW,hS,hV,hD⟩ b i h d hb hi hd=>by
 have k5:∀(i g:Int) (z1:Int) (w1:ByteArray) (z2:Int) (w2 w3 w4:ByteArray) (v1 v2:B2e) (c:B2g) (k:B2f) (s:B32),0≤i→B6k 22 s→
   B2q b (B6k 22) (B6h n 1 b i g z1 w1 z2 w2 w3 w4 v1 v2 c k s.1 s.2.1 s.2.2.2.2.1 s.2.2.2.2.2.1 s.2.2.2.2.2.2.2.2.1 s.2.2.2.2.2.2.2.2.2 s.2.2.1 s.2.2.2.1 s.2.2.2.2.2.2.1 s.2.2.2.2.2.2.2.1):=by
  intro i g z1 w1 z2 w2 w3 w4 v1 v2 c k s hi hs
  simp only[B6h]
  exact .mk hi hs
 have k4:∀(x i g:Int) (z1:Int) (w1:ByteArray) (z2:Int) (w2 w3 w4:ByteArray) (v1 v2:B2e) (c:B2g) (k:B2f) (s:B32),0≤i→B6k 22 s→
   B2q b (B6k 22) (B6g n 1 x b i g z1 w1 z2 w2 w3 w4 v1 v2 c k s.1 s.2.1 s.2.2.2.2.1 s.2.2.2.2.2.1 s.2.2.2.2.2.2.2.2.1 s.2.2.2.2.2.2.2.2.2 s.2.2.1 s.2.2.2.1 s.2.2.2.2.2.2.1 s.2.2.2.2.2.2.2.1):=by
  intro x i g z1 w1 z2 w2 w3 w4 v1 v2 c k s hi hs
  simp only[B6g]
  refine B38 (fun _=>?_) fun _=>k5 _ _ _ _ _ _ _ _ _ _ _ _ s hi hs
  refine(hD b i g hb hi).bind fun y i2 g2 p2 q2=>?_
  exact k5 _ _ _ _ _ _ _ _ _ _ _ _ (s.1,(s.2.1,(s.2.2.1,(s.2.2.2.1,y)))) p2 ⟨hs.1,hs.2.1,hs.2.2.1,q2⟩
 have k3:∀(x i g:Int) (z1:Int) (w1:ByteArray) (z2:Int) (w2 w3 w4:ByteArray) (v1 v2:B2e) (c:B2g) (k:B2f) (s:B32),0≤i→B6k 21 s→
   B2q b (B6k 22) (B6f n 1 x b i g z1 w1 z2 w2 w3 w4 v1 v2 c k s.1 s.2.1 s.2.2.2.2.1 s.2.2.2.2.2.1 s.2.2.2.2.2.2.2.2.1 s.2.2.2.2.2.2.2.2.2 s.2.2.1 s.2.2.2.1 s.2.2.2.2.2.2.1 s.2.2.2.2.2.2.2.1):=by
  intro x i g z1 w1 z2 w2 w3 w4 v1 v2 c k s hi hs
  simp only[B6f]
  have hl:=hs.2.2.1.1
  refine B38 (fun _=>?_) fun _=>k4 _ _ _ _ _ _ _ _ _ _ _ _ _ s hi (hs.mono (by decide))
  refine(hV b i g hb hi).bind fun y i2 g2 p2 q2=>?_
  refine B9a (room_le (n:=100) (by simp;omega) (by decide) (by decide)) ?_
  exact k4 _ _ _ _ _ _ _ _ _ _ _ _ _ (s.1,(s.2.1,(s.2.2.1,(s.2.2.2.1++[y],s.2.2.2.2)))) p2 ⟨hs.1,hs.2.1.mono (by decide),hs.2.2.1.add (Nat.le_trans q2 (by decide)),hs.2.2.2⟩
 have k2:∀(x i g:Int) (z1:Int) (w1:ByteArray) (z2:Int) (w2 w3 w4:ByteArray) (v1 v2:B2e) (c:B2g) (k:B2f) (s:B32),0≤i→B6k 20 s→
   B2q b (B6k 22) (B6e n 1 x b i g z1 w1 z2 w2 w3 w4 v1 v2 c k s.1 s.2.1 s.2.2.2.2.1 s.2.2.2.2.2.1 s.2.2.2.2.2.2.2.2.1 s.2.2.2.2.2.2.2.2.2 s.2.2.1 s.2.2.2.1 s.2.2.2.2.2.2.1 s.2.2.2.2.2.2.2.1):=by
  intro x i g z1 w1 z2 w2 w3 w4 v1 v2 c k s hi hs
  simp only[B6e]
  have hl:=hs.2.1.1
  refine B38 (fun _=>?_) fun _=>k3 _ _ _ _ _ _ _ _ _ _ _ _ _ s hi (hs.mono (by decide))
  refine(hV b i g hb hi).bind fun y i2 g2 p2 q2=>?_
  refine B9a (room_le (n:=100) (by simp;omega) (by decide) (by decide)) ?_
  exact k3 _ _ _ _ _ _ _ _ _ _ _ _ _ (s.1,(s.2.1,(s.2.2.1++[y],s.2.2.2))) p2 ⟨hs.1,hs.2.1.add (Nat.le_trans q2 (by decide)),hs.2.2.1.mono (by decide),hs.2.2.2⟩
 have k1:∀(x i g:Int) (z1:Int) (w1:ByteArray) (z2:Int) (w2 w3 w4:ByteArray) (v1 v2:B2e) (c:B2g) (k:B2f) (s:B32),0≤i→B6k 20 s→
   B2q b (B6k 22) (B6d n 1 x b i g z1 w1 z2 w2 w3 w4 v1 v2 c k s.1 s.2.1 s.2.2.2.2.1 s.2.2.2.2.2.1 s.2.2.2.2.2.2.2.2.1 s.2.2.2.2.2.2.2.2.2 s.2.2.1 s.2.2.2.1 s.2.2.2.2.2.2.1 s.2.2.2.2.2.2.2.1):=by
  intro x i g z1 w1 z2 w2 w3 w4 v1 v2 c k s hi hs
  simp only[B6d]
  refine B38 (fun _=>?_) fun _=>k2 _ _ _ _ _ _ _ _ _ _ _ _ _ s hi hs
  refine(hW b i g 3 hb hi (by omega)).bind fun y i2 g2 p2 q2=>?_
  exact B9a (C4f (m:=3) (by decide) (by decide) q2) (k2 _ _ _ _ _ _ _ _ _ _ _ _ _ (s.1,(_,s.2.2)) p2 ⟨C0h (by decide),hs.2⟩)
 simp only[C0g]
 refine(hS b i h d hb hi hd).bind fun s i1 g1 p1 q1=>?_
 refine(hW b i1 g1 14 hb p1 (by omega)).bind fun x i2 g2 p2 q2=>?_
 refine B38 (fun _=>?_) fun _=>k1 _ _ _ _ _ _ _ _ _ _ _ _ _ s p2 q1
 refine(hW b i2 g2 8 hb p2 (by omega)).bind fun y i3 g3 p3 q3=>?_
 exact k1 _ _ _ _ _ _ _ _ _ _ _ _ _ (_,s.2) p3 q1
theorem D8w:EV fun n=>∀b:List Int,b.length≤1048576→∃(d:B7j) (s:B32),C21 n b=some (d,(s,()))∧C1o 1048576 d∧B99 1048576 s:=(E2k.and (D2r.and D40)).up fun n ⟨hN,hA,hS⟩ b hb=>by
 obtain⟨h,e0⟩:=hN b hb
 obtain⟨d,i1,g1,e1,p1,q1⟩:=hA b 0 h hb (by omega)
 obtain⟨s,i2,g2,e2,p2,q2⟩:=hS b i1 g1 d hb p1 q1
 simp only[C21,e0,e1,e2,zC]
 exact⟨_,_,rfl,q1.sm (by decide) (by decide),q2.sm (by decide)⟩
theorem C50 (l:A7d)(d:B6l):total (l::d)=l.length+total d:=by simp[total]
theorem C79 (a b:B6l):total (a++b)=total a+total b:=by simp[total]
theorem D26:∀{d:B6l} {i:Nat} (hi:i<d.length) (l:A7d),total (d.set i l)+d[i].length=total d+l.length
 |x::d,0,_,l=>by simp only[List.set_cons_zero,C50,List.getElem_cons_zero];omega
 |x::d,i+1,hi,l=>by
  have:=D26 (d:=d) (i:=i) (by simpa using hi) l
  simp only[List.set_cons_succ,C50,List.getElem_cons_succ];omega
theorem D6y {d:B6l}{i:Nat}(hi:i<d.length):total (B2b d i)+d[i].length=total d:=by
 have e:d=d.take i++d[i]::d.drop (i+1):=by rw[←zC1 hi,List.take_append_drop]
 have h1:total d=total (d.take i)+(d[i].length+total (d.drop (i+1))):=by
  conv=>lhs;rw[e]
  rw[C79,C50]
 unfold B2b
 rw[C79];omega
theorem D9l {d:B7j}(h:B68 d=true):total d.2≤360:=by
 obtain⟨hc,hl,hrow⟩:=B69 h
 have h6:=(B9o hc).1
 have:=E2p (d:=d.2) (b:=60) fun r hr=>by
  obtain⟨k,hk,rfl⟩:=List.mem_iff_getElem.mp hr
  exact(B3w (hrow k (by omega) hk)).2.1
 have:d.2.length*60≤6*60:=Nat.mul_le_mul_right _ (by omega)
 omega
theorem D0v {α:Type}{l:List α}{i:Nat}(hi:i<l.length):(B2b l i).length+1=l.length:=by simp[B2b];omega
theorem D9w {x:C1}{l:A7d}{s:B32}(k5:¬s.1=5)(hz:(B5o x l s).2.1=0):(s.1=1→(B5o x l s).1.length=l.length+1)∧(s.1=3→(B5o x l s).1.length+1=l.length)∧(s.1=2→(B5o x l s).1.length=l.length)∧(s.1≠1→(B5o x l s).1.length≤l.length):=by
 unfold B5o at hz⊢
 by_cases k1:s.1=1
 ·rw[if_pos k1]at hz⊢
  have:(B88 x l s.2.2.2.1).1.length=l.length+1:=by
   unfold B88 at hz⊢
   split at hz
   ·split at hz
    ·split at hz
     ·cases hz
     ·split at hz
      ·cases hz
      ·rename_i h1 h2 h3 h4
       rw[if_pos h1,if_pos h2,if_neg h3,if_neg h4];exact C34 ..
    ·cases hz
   ·cases hz
  exact⟨fun _=>this,fun h=>absurd (k1.symm.trans h) (by decide),fun h=>absurd (k1.symm.trans h) (by decide),fun h=>absurd k1 h⟩
 rw[if_neg k1]at hz⊢
 by_cases k2:s.1=2
 ·rw[if_pos k2]at hz⊢
  have:(C0d x l s.2.2.1 s.2.2.2.1).1.length=l.length:=by
   unfold C0d at hz⊢
   split at hz
   ·split at hz
    ·split at hz
     ·split at hz
      ·cases hz
      ·rename_i h1 h2 h3 h4
       rw[if_pos h1,if_pos h2,if_pos h3,if_neg h4]
       show(B56 _ _ _).length=_
       rw[C34];exact D0v (D1r h3.2)
     ·cases hz
    ·cases hz
   ·cases hz
  exact⟨fun h=>absurd h k1,fun h=>absurd (k2.symm.trans h) (by decide),fun _=>this,fun _=>Nat.le_of_eq this⟩
 rw[if_neg k2]at hz⊢
 by_cases k3:s.1=3
 ·rw[if_pos k3]at hz⊢
  have:(C0c x l s.2.2.1).1.length+1=l.length:=by
   unfold C0c at hz⊢
   split at hz
   ·split at hz
    ·rename_i h1 h2
     rw[if_pos h1,if_pos h2]
     exact D0v (D1r h2.2)
    ·cases hz
   ·cases hz
  exact⟨fun h=>absurd h k1,fun _=>this,fun h=>absurd h k2,fun _=>by omega⟩
 rw[if_neg k3,if_neg k5]
 exact⟨fun h=>absurd h k1,fun h=>absurd h k3,fun h=>absurd h k2,fun _=>Nat.zero_le _⟩
theorem D9s {d:B7j}{s:B32}(ok:B68 d=true)(sk:B89 s=true)(hz:(B59 d s).2.1=0):
  (s.1=1→total (B59 d s).1.2=total d.2+1)∧(s.1=3→total (B59 d s).1.2+1=total d.2)∧(s.1=2→total (B59 d s).1.2=total d.2)∧(s.1≠1→total (B59 d s).1.2≤total d.2):=by
 obtain⟨hc,hl,hrow⟩:=B69 ok
 unfold B59 at hz⊢
 by_cases h4:tAt d.1 s.2.1<0∧(s.1≠5∨s.2.2.2.2.1≠1)
 ·rw[if_pos h4]at hz;cases hz
 rw[if_neg h4]at hz⊢
 by_cases k5:s.1=5
 ·rw[if_pos k5]at hz⊢
  obtain⟨dk,htb⟩:=D9x sk k5
  unfold B9z at hz⊢
  by_cases ha:(B39 d.1 s.2.2.2.2).2.1=0
  rotate_left
  ·rw[if_neg ha]at hz
   have:=(C4t d.1 s.2.2.2.2).1
   simp only at hz
   omega
  rw[if_pos ha]
  have hcode:B98 d.1 s.2.2.2.2=0:=by
   simp only[B39,hc,dk,and_self,if_true]at ha
   by_cases h:B98 d.1 s.2.2.2.2=0
   ·exact h
   ·rw[if_neg h]at ha;exact absurd ha h
  have hcat:(B39 d.1 s.2.2.2.2).1=B49 d.1 s.2.2.2.2:=by simp[B39,hc,dk,hcode]
  rw[hcat]
  have key:total ((B49 d.1 s.2.2.2.2).map (B4k d s))≤total d.2:=by
   by_cases k1:s.2.2.2.2.1=1
   ·have hno:¬0≤tAt d.1 s.2.1:=fun h=>by
     simp only[B98,k1,if_true]at hcode
     rw[htb]at h
     rw[if_pos h]at hcode;cases hcode
    have hn:∀t∈d.1,t.1≠s.2.2.2.2.2.1:=fun t ht e=>hno (C78.mpr ⟨t,ht,e.trans htb.symm⟩)
    obtain⟨p,hp,ep,es⟩:=C6x (s.2.2.2.2.2.1,(s.2.2.2.2.2.2.1,s.2.2.2.2.2.2.2.1)) d.1 hn
    have hm:=D97 ok s (by omega)
    simp only[B49,k1,if_true]
    rw[es]
    have hx:B4k d s (s.2.2.2.2.2.1,(s.2.2.2.2.2.2.1,s.2.2.2.2.2.2.2.1))=[]:=by
     unfold B4k
     exact if_neg (by rw[←htb];exact hno)
    simp only[List.map_append,List.map_cons,List.map_nil,List.map_take,List.map_drop,hm,hx,C79,C50,zX]
    have:total (d.2.take p)+total (d.2.drop p)=total d.2:=by rw[←C79,List.take_append_drop]
    have e0:total ([]:B6l)=0:=rfl
    omega
   obtain⟨i,ei,hi,hf⟩:=C2v hcode k1
   rw[←htb]at ei
   have hi2:i<d.2.length:=by omega
   by_cases k2:s.2.2.2.2.1=2
   ·simp only[B49,k2,show¬(2:Int)=1 by decide,if_false,if_true]
    rw[←htb,ei,zE,D98 ok s ei]
    have:=D6y hi2
    omega
   ·simp only[B49,k1,k2,if_false]
    rw[←htb,ei,zE,getD_at hi]
    have hname:(B2y d.1[i] s.2.2.2.2).1=d.1[i].1:=rfl
    rw[D99 ok s ei hi hname]
    have h1:=D26 hi2 (B4t d.1[i] d.2[i] s.2.2.2.2).1
    have h2:(B4t d.1[i] d.2[i] s.2.2.2.2).1.length≤d.2[i].length:=by
     unfold B4t
     repeat' split
     all_goals first
      |exact Nat.zero_le _
      |(show(List.map _ _).length≤_;rw[List.length_map];exact Nat.le_refl _)
    omega
  exact⟨fun h=>absurd (k5.symm.trans h) (by decide),fun h=>absurd (k5.symm.trans h) (by decide),fun h=>absurd (k5.symm.trans h) (by decide),fun _=>key⟩
 ·rw[if_neg k5]at hz⊢
  rcases B96 d.1 s.2.1 with c|⟨i,ei,hi⟩
  ·exact absurd ⟨c,.inl k5⟩ h4
  have hi2:i<d.2.length:=by omega
  rw[ei,zE,getD_at hi,getD_at hi2]at hz⊢
  by_cases hq:(B5o d.1[i] d.2[i] s).2.1=0
  rotate_left
  ·rw[if_neg hq]at hz
   have:=(C6z d.1[i] d.2[i] s).1
   simp only at hz
   omega
  rw[if_pos hq]
  obtain⟨a1,a2,a3,a4⟩:=D9w k5 hq
  have h1:=D26 hi2 (B5o d.1[i] d.2[i] s).1
  exact⟨fun h=>by have:=a1 h;simp only;omega,fun h=>by have:=a2 h;simp only;omega,fun h=>by have:=a3 h;simp only;omega,fun h=>by have:=a4 h;simp only;omega⟩
theorem E0h {d:B7j}{s:B32}(hz:¬(C5d d s).2.1=0):(C5d d s).1.2=[]:=by
 unfold C5d at hz⊢
 by_cases h:B68 d=true∧B89 s=true
 rotate_left
 ·rw[if_neg h];rfl
 rw[if_pos h]at hz⊢
 unfold B59 at hz⊢
 by_cases h4:tAt d.1 s.2.1<0∧(s.1≠5∨s.2.2.2.2.1≠1)
 ·rw[if_pos h4];rfl
 rw[if_neg h4]at hz⊢
 by_cases k5:s.1=5
 ·rw[if_pos k5]at hz⊢
  unfold B9z at hz⊢
  by_cases ha:(B39 d.1 s.2.2.2.2).2.1=0
  ·rw[if_pos ha]at hz;exact absurd rfl hz
  ·rw[if_neg ha];rfl
 ·rw[if_neg k5]at hz⊢
  by_cases hq:(B5o (d.1.getD (tAt d.1 s.2.1).toNat C19) (d.2.getD (tAt d.1 s.2.1).toNat []) s).2.1=0
  ·rw[if_pos hq]at hz;exact absurd rfl hz
  ·rw[if_neg hq];rfl
theorem E2i:EV fun n=>∀(x0:D7e),D9e 140737488355328 x0→C6v n x0=some true:=(D8w.and (D7v.and (D7z.and (D5y.and C4y)))).up fun n ⟨hD,hI,hS,hC,hO⟩ x0 _=>by
 rw[C6v]
 by_cases hb:x0.length≤1048576
 ·have e0:decide ((1048576:Int)<(x0.length:Int))=false:=zK (by omega)
  obtain⟨d,s,e,sd,ss⟩:=hD x0 hb
  have se:=E0q sd ss
  simp only[e0,zA,e,zC,hI d s sd ss,hS d s sd ss,B4a,B2z,zI,zT,hC _ se,hC _ sd,hO _ se]
  by_cases hz:(C5d d s).2.1=0
  ·have hk:B68 d=true∧B89 s=true:=by
    refine Classical.byContradiction fun h=>?_
    have:C5d d s=(D1t,(1,())):=if_neg h
    rw[this]at hz;cases hz
   have ee:C5d d s=B59 d s:=if_pos hk
   rw[ee]at hz⊢
   have ok:=E15 hk.1 hk.2 hz
   obtain⟨a1,a2,a3,a4⟩:=D9s hk.1 hk.2 hz
   have c1:D7q (B59 d s).1=(total (B59 d s).1.2:Int):=if_pos ok
   have c2:D7q d=(total d.2:Int):=if_pos hk.1
   have t1:=D9l ok
   have t2:=D9l hk.1
   have w:IntKind.wrap .i64 ((total (B59 d s).1.2:Int) - (total d.2:Int))=(total (B59 d s).1.2:Int) - (total d.2:Int):=by rw[wrap64]<;>omega
   simp only[hz,zI,zT,zA,c1,c2,w,ok,zB]
   by_cases k1:s.1=1
   ·have:decide ((total (B59 d s).1.2:Int) - (total d.2:Int)=1)=true:=zD (by have:=a1 k1;omega)
    simp only[k1,zI,zB,this]
   by_cases k3:s.1=3
   ·have:decide ((total (B59 d s).1.2:Int) - (total d.2:Int)= -1)=true:=zD (by have:=a2 k3;omega)
    simp only[k1,k3,zH,zA,zI,zB,this,show decide ((3:Int)=1)=false from rfl]
   by_cases k2:s.1=2
   ·have:decide ((total (B59 d s).1.2:Int) - (total d.2:Int)=0)=true:=zD (by have:=a3 k2;omega)
    simp only[k2,zI,zB,this,show decide ((2:Int)=1)=false from rfl,show decide ((2:Int)=3)=false from rfl,zA]
   ·have:decide ((total (B59 d s).1.2:Int) - (total d.2:Int)≤0)=true:=zD (by have:=a4 k1;omega)
    simp only[k1,k2,k3,zH,zA,this]
  ·have hnil:=E0h hz
   simp only[hz,zH,zU,zB,hnil];rfl
 ·have e0:decide ((1048576:Int)<(x0.length:Int))=true:=zD (by omega)
  simp only[e0,zB]

end Go.Proofs.YtalmhjlcjcnidaaGreat.Ev
